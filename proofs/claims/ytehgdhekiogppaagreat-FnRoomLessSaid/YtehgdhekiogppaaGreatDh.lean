/- Draws of an order with units: l6List, l7Some, DrawRoom, DrawHolds, DrawCheapest. -/
import Derived.Test.YtehgdhekiogppaaGreatSu
import Derived.Test.YtehgdhekiogppaaGreatDg
namespace Go.Proofs.YtehgdhekiogppaaGreat
open Go.ChangeShapes Go.WideShapes Go.ChangeAt Go.RowKit Go.Deep
set_option linter.unusedVariables false
set_option linter.unusedSimpArgs false

theorem ret_cell3 {P : Program} {fn : Func} {R : Ending → World → Prop} {a : Act} {w : World} {p u v : Tmp} {ty : TypeId} {g : Nat} {T : TypeId} {cs : Array Value} {d : TypeDesc} (h : fn.results = #[.cell p ty, .tmp u, .tmp v])
    (hp : a.tmps.getD p undef = .pointer (some ⟨g, 0, none⟩)) (hb : Blk w g T cs) (hu : P.underlying ty = some d) (hd : d.isRow = true) (hi : (P.info? ty).map (·.size) = some cs.size) (hdf : a.defers = [])
    (hR : R (.returned (.tuple #[.agg cs, a.tmps.getD u undef, a.tmps.getD v undef])) w) : bodyPost P fn R .ret a w := by
  refine bodyPost_ret (v := .tuple #[.agg cs, a.tmps.getD u undef, a.tmps.getD v undef]) ?_ hdf hR
  have hp' : a.tmps[p]?.getD undef = .pointer (some ⟨g, 0, none⟩) := by simpa using hp
  have hl := load_blk (P := P) hb hu hd hi
  have ha := asAddr_ptr (P := P) (w := w) ⟨g, 0, none⟩
  simp only [results, h]
  simp [hp', ha, hl, Sem.run_bind, Result.andThen]
theorem ret_celltc {P : Program} {fn : Func} {R : Ending → World → Prop} {a : Act} {w : World} {p p' u : Tmp} {ty ty' : TypeId} {g g' : Nat} {T T' : TypeId} {cs cs' : Array Value} {d d' : TypeDesc} (h : fn.results = #[.cell p ty, .tmp u, .cell p' ty'])
    (hp : a.tmps.getD p undef = .pointer (some ⟨g, 0, none⟩)) (hb : Blk w g T cs) (hu : P.underlying ty = some d) (hd : d.isRow = true) (hi : (P.info? ty).map (·.size) = some cs.size)
    (hp' : a.tmps.getD p' undef = .pointer (some ⟨g', 0, none⟩)) (hb' : Blk w g' T' cs') (hu' : P.underlying ty' = some d') (hd' : d'.isRow = true) (hi' : (P.info? ty').map (·.size) = some cs'.size) (hdf : a.defers = [])
    (hR : R (.returned (.tuple #[.agg cs, a.tmps.getD u undef, .agg cs'])) w) : bodyPost P fn R .ret a w := by
  refine bodyPost_ret (v := .tuple #[.agg cs, a.tmps.getD u undef, .agg cs']) ?_ hdf hR
  have hp1 : a.tmps[p]?.getD undef = .pointer (some ⟨g, 0, none⟩) := by simpa using hp
  have hp2 : a.tmps[p']?.getD undef = .pointer (some ⟨g', 0, none⟩) := by simpa using hp'
  have hl := load_blk (P := P) hb hu hd hi
  have ha := asAddr_ptr (P := P) (w := w) ⟨g, 0, none⟩
  have hl' := load_blk (P := P) hb' hu' hd' hi'
  have ha' := asAddr_ptr (P := P) (w := w) ⟨g', 0, none⟩
  simp only [results, h]
  simp [hp1, hp2, ha, hl, ha', hl', Sem.run_bind, Result.andThen]

set_option maxRecDepth 20000 in
set_option maxHeartbeats 2000000 in
theorem l6List_any (A : Option Addr) (n c : Nat) (bs : List Int) (w : World) (hs : SlK 1 encByte w 0 w.heap.size A n c bs) (hb : ∀ b ∈ bs, 0 ≤ b ∧ b ≤ 255) :
    Calls Tryz.prog 76 #[.slice A n c] w fun e w' => (∃ (r : Rq) (A1 : Option Addr) (n1 c1 : Nat) (A2 : Option Addr) (n2 c2 : Nat) (A3 : Option Addr) (n3 c3 : Nat) (us : List Int) (A4 : Option Addr) (n4 c4 : Nat), e = .returned (.tuple #[.agg #[.int .i64 r.way, .int .i64 r.pal.w, .int .i64 r.pal.d, .int .i64 r.pal.h, .int .i64 r.pal.gram, .int .i64 r.cls, .slice A1 n1 c1, .slice A2 n2 c2, .int .i64 r.master, .slice A3 n3 c3], .slice A4 n4 c4]) ∧ RqAt w' w.heap.size w'.heap.size r A1 n1 c1 A2 n2 c2 A3 n3 c3 ∧ SlK 1 encInt w' w.heap.size w'.heap.size A4 n4 c4 us ∧ n1 ≤ 33 ∧ n2 ≤ 6 ∧ n3 ≤ 6 ∧ n4 ≤ 5) ∧ Below w.heap.size w w' := by
  have hs2 := (hs.alloc (Nat.le_refl _) (.cells rqZero 37)).more (Nat.le_refl 0) (show w.heap.size ≤ (w.alloc (.cells rqZero 37)).heap.size by simp)
  go_enter Tryz.func76, Tryz.ntmps76
  go_wp2_with fail
  refine (drawClass_any A n c bs _ hs2 hb).mono ?_
  rintro e w1 ⟨⟨r, A1, n1, c1, A2, n2, c2, A3, n3, c3, rfl, hr, hn1, hn2, hn3⟩, hb1⟩
  have z1 : w.heap.size + 1 ≤ w1.heap.size := by simpa using hb1.size
  have hs3 := (hs2.below hb1 (by simp)).more (Nat.le_refl 0) (show (w.alloc (.cells rqZero 37)).heap.size ≤ w1.heap.size by simpa using hb1.size)
  have Z1 := hide (Blk.belowH (Blk.new w 37 rqZero rfl) hb1)
  have L1 := hide (show Below w.heap.size w w1 from (by repeat (first | with_reducible exact Below.refl _ _ | with_reducible assumption | with_reducible refine Below.setCell ?_ (by (try simp) <;> omega) _ | with_reducible refine Below.alloc ?_ (by (try simp) <;> omega) _ | with_reducible refine Below.drew ?_ | with_reducible refine below_drewN ?_ _ | with_reducible exact hb1 | with_reducible refine Below.trans ?_ (Below.mono hb1 (by (try simp) <;> omega)))))
  simp only [World.size_alloc] at hr
  have HR1 := hide hr
  clear hr hb1 hs hs2
  go_wp2_with fail
  refine (l1New_any A n c bs _ ((hs3.alloc (Nat.le_refl _) _).more (Nat.le_refl 0) (by simp)) hb).mono ?_
  rintro e w2 ⟨rfl, hc2, hb2⟩
  have z2 : w1.heap.size + 1 ≤ w2.heap.size := by simpa using hb2.size
  have hgl := hc2.lt
  have P2 := hide (Blk.belowH (Blk.new w1 37 (#[.int .i64 r.way, .int .i64 r.pal.w, .int .i64 r.pal.d, .int .i64 r.pal.h, .int .i64 r.pal.gram, .int .i64 r.cls, .slice A1 n1 c1, .slice A2 n2 c2, .int .i64 r.master, .slice A3 n3 c3]) (g := w1.heap.size) rfl) hb2)
  have Z2 := hide (Blk.belowH (Z1.out.alloc _) hb2)
  have L2 := hide (show Below w.heap.size w w2 from (by repeat (first | with_reducible exact Below.refl _ _ | with_reducible assumption | with_reducible refine Below.setCell ?_ (by (try simp) <;> omega) _ | with_reducible refine Below.alloc ?_ (by (try simp) <;> omega) _ | with_reducible refine Below.drew ?_ | with_reducible refine below_drewN ?_ _ | with_reducible exact L1.out | with_reducible exact hb2 | with_reducible refine Below.trans ?_ (Below.mono L1.out (by (try simp) <;> omega)) | with_reducible refine Below.trans ?_ (Below.mono hb2 (by (try simp) <;> omega)))))
  have HR2 := hide (((HR1.out.alloc (Nat.le_refl _) _).below (B := (w1.alloc (.cells (#[.int .i64 r.way, .int .i64 r.pal.w, .int .i64 r.pal.d, .int .i64 r.pal.h, .int .i64 r.pal.gram, .int .i64 r.cls, .slice A1 n1 c1, .slice A2 n2 c2, .int .i64 r.master, .slice A3 n3 c3]) 37)).heap.size) hb2 (by simp)))
  have HC2 := hide hc2
  simp only [World.size_alloc] at hgl
  clear hb2 hc2 Z1 L1 HR1 hs3
  simp only [World.size_alloc] at HC2
  go_wp2_with fail
  refine (l1Below_any 6 (by omega) (by omega) _ A n c bs _ (HC2.out.alloc _)).mono ?_
  rintro e w3 ⟨⟨m0, rfl, hm0, hm1⟩, hc3, hg3⟩
  obtain ⟨m, rfl⟩ := Int.eq_ofNat_of_zero_le hm0
  have hm5 : m ≤ 5 := by omega
  have HO3 := hide (own_call (own_litK (α := Int) (k := 1) (enc := encInt) w2 3 w2.heap.size (Nat.le_refl _) rfl) hg3 (fun x hx => by have hx' : w1.heap.size + 1 = x := Option.some.inj hx; omega))
  have HC3 := hide hc3
  have HG3 := hide (grown_trans (grown_alloc w2 (some (w1.heap.size + 1)) _) hg3)
  have z3 : w2.heap.size + 1 ≤ w3.heap.size := by simpa using hg3.size
  clear hc3 hg3 HC2
  go_wp2_with fail
  go_loopw [6, 8] (fun o i wr => ∃ (k : Nat) (xs : List Int), k ≤ m ∧ i = .int .i64 k ∧ xs.length = k ∧ Own 1 encInt 3 wr w2.heap.size o xs ∧ CurAt 132 wr (w1.heap.size + 1) A n c bs ∧ w2.grownBy wr (some (w1.heap.size + 1))) (fun _ i _ => m - (intOf i).toNat)
  case atStart => exact ⟨0, [], Nat.zero_le _, rfl, rfl, HO3.out, HC3.out, HG3.out⟩
  case round =>
    clear HO3 HC3 HG3
    obtain ⟨k, xs, hk, rfl, hl, ho, hc, hg⟩ := hrel
    have HO := hide ho
    have HC := hide hc
    have HG := hide hg
    have HL := hide hl
    have y := hg.size
    clear ho hc hg hl
    by_cases hlt : k < m
    · have i1 : (k : Int) < (m : Int) := by omega
      go_wp2_with fail
      refine (l1Below_any 14 (by omega) (by omega) _ A n c bs _ HC.out).mono ?_
      rintro e w4 ⟨⟨x, rfl, hx0, hx1⟩, hc4, hg4⟩
      have HO4 := hide (own_call HO.out hg4 (fun x hx => by have hx' : w1.heap.size + 1 = x := Option.some.inj hx; omega))
      have HC4 := hide hc4
      have HG4 := hide (grown_trans HG.out hg4)
      have z4 := hg4.size
      have hnl : xs.length ≤ 4194304 := by rw [HL.out]; omega
      clear hc4 hg4 HO HC HG
      go_wp2_with (at_builtin; refine wpList_app rfl _ _ rfl rfl rfl (app1 HO4.out (by omega) hnl (x - 1)) ?_; intro v' w5 ho5 hg5 hat5; have HO5 := hide ho5; have HC5 := hide ((HC4.out.alloc _).grown hg5 (fun x hx => by have := (HO4.out.lt x hx).1; omega)); have HG5 := hide (grown_far (grown_trans HG4.out (grown_alloc _ _ _)) hg5 (fun x hx => (HO4.out.lt x hx).1)); clear ho5 hg5 hat5)
      go_roundw
      case rel => exact ⟨k + 1, xs ++ [x - 1], by omega, by go_num, by rw [List.length_append, HL.out]; rfl, HO5.out, HC5.out, HG5.out⟩
      case measure => first | omega | (simp [intOf]; done) | (simp [intOf]; omega)
    · obtain rfl : k = m := by omega
      clear hlt
      obtain ⟨Ao, co, rfl, so⟩ := Own.slk' encInt_len HL.out HO.out
      have HSO := hide (so.more (show w.heap.size + 1 ≤ w2.heap.size by omega) (Nat.le_refl _))
      have Z9 := hide (Z2.out.grown HG.out (fun e => by have e2 : w.heap.size = w1.heap.size + 1 := Option.some.inj e; omega))
      have P9 := hide (P2.out.grown HG.out (fun e => by have e2 : w1.heap.size = w1.heap.size + 1 := Option.some.inj e; omega))
      have L9 := hide (L2.out.grown HG.out (by omega) (fun x hx => by have hx2 : w1.heap.size + 1 = x := Option.some.inj hx; omega))
      have HR9 := hide (HR2.out.grown HG.out (by omega) (fun x hx => .inr (by have hx2 : w1.heap.size + 1 = x := Option.some.inj hx; omega)))
      have kP := P9.out.cell
      have yP := P9.out.lt
      have kZ := Z9.out.cell
      have fZ := Z9.out.frozen
      unfold rqZero at kZ
      have yZ := Z9.out.lt
      clear so Z2 P2 L2 HR2 HG HC HO
      go_wp2_with fail
      have hz10 := Z9.out
      unfold rqZero at hz10
      obtain ⟨hB10, hg10⟩ := st10 hz10 (.int .i64 r.way) (.int .i64 r.pal.w) (.int .i64 r.pal.d) (.int .i64 r.pal.h) (.int .i64 r.pal.gram) (.int .i64 r.cls) (.slice A1 n1 c1) (.slice A2 n2 c2) (.int .i64 r.master) (.slice A3 n3 c3)
      refine ret_cell2 Tryz.results76 rfl hB10 Tryz.underlying37 rfl (by kernel_rfl) rfl ?_
      exact ⟨⟨r, A1, n1, c1, A2, n2, c2, A3, n3, c3, _, _, _, _, rfl, ⟨slk_fin (HR9.out.pr.more (by omega) (by omega)) hg10, slk_fin (HR9.out.ty.more (by omega) (by omega)) hg10, slk_fin (HR9.out.it.more (by omega) (by omega)) hg10⟩, slk_fin HSO.out hg10, hn1, hn2, hn3, hm5⟩, L9.out.grown hg10 (by omega) (fun x hx => by have hx2 : w.heap.size = x := Option.some.inj hx; omega)⟩
set_option maxRecDepth 20000 in
set_option maxHeartbeats 2000000 in
theorem uoL_12 (r : Rq) (k : Int) : (uoL r k).length ≤ 12 := by
  have h := unitsR_len r
  unfold uoL
  split
  · exact Nat.le_trans (uoTo_len _ _ _) h
  · exact Nat.zero_le _
set_option maxRecDepth 20000 in
set_option maxHeartbeats 2000000 in
theorem l7Some_any (A : Option Addr) (n c : Nat) (bs : List Int) (w : World) (hs : SlK 1 encByte w 0 w.heap.size A n c bs) (hb : ∀ b ∈ bs, 0 ≤ b ∧ b ≤ 255) :
    Calls Tryz.prog 79 #[.slice A n c] w fun e w' => (∃ (r : Rq) (A1 : Option Addr) (n1 c1 : Nat) (A2 : Option Addr) (n2 c2 : Nat) (A3 : Option Addr) (n3 c3 : Nat) (us : List Int) (A4 : Option Addr) (n4 c4 : Nat), e = .returned (.tuple #[.agg #[.int .i64 r.way, .int .i64 r.pal.w, .int .i64 r.pal.d, .int .i64 r.pal.h, .int .i64 r.pal.gram, .int .i64 r.cls, .slice A1 n1 c1, .slice A2 n2 c2, .int .i64 r.master, .slice A3 n3 c3], .slice A4 n4 c4]) ∧ RqAt w' w.heap.size w'.heap.size r A1 n1 c1 A2 n2 c2 A3 n3 c3 ∧ SlK 1 encInt w' w.heap.size w'.heap.size A4 n4 c4 us ∧ n1 ≤ 33 ∧ n2 ≤ 6 ∧ n3 ≤ 6 ∧ n4 ≤ 12) ∧ Below w.heap.size w w' := by
  have hs2 := (hs.alloc (Nat.le_refl _) (.cells rqZero 37)).more (Nat.le_refl 0) (show w.heap.size ≤ (w.alloc (.cells rqZero 37)).heap.size by (try simp) <;> omega)
  go_enter Tryz.func79, Tryz.ntmps79
  go_wp2_with fail
  refine (l6List_any A n c bs _ hs2 hb).mono ?_
  rintro e w1 ⟨⟨r, A1, n1, c1, A2, n2, c2, A3, n3, c3, us, A4, n4, c4, rfl, hr, hu, hn1, hn2, hn3, hn4⟩, hb1⟩
  have z1 : w.heap.size + 1 ≤ w1.heap.size := by simpa using hb1.size
  have hs3 := (hs2.below hb1 (by simp)).more (Nat.le_refl 0) (show (w.alloc (.cells rqZero 37)).heap.size ≤ w1.heap.size by simpa using hb1.size)
  have Z1 := hide (Blk.belowH (Blk.new w 37 rqZero rfl) hb1)
  have L1 := hide (show Below w.heap.size w w1 from (by repeat (first | with_reducible exact Below.refl _ _ | with_reducible assumption | with_reducible refine Below.setCell ?_ (by (try simp) <;> omega) _ | with_reducible refine Below.alloc ?_ (by (try simp) <;> omega) _ | with_reducible refine Below.drew ?_ | with_reducible refine below_drewN ?_ _ | with_reducible exact hb1 | with_reducible refine Below.trans ?_ (Below.mono hb1 (by (try simp) <;> omega)))))
  simp only [World.size_alloc] at hr hu
  have huc := hu.cap
  have hum := hu.max
  have HR1 := hide hr
  have HU1 := hide hu
  clear hr hu hb1 hs hs2
  go_wp2_with fail
  refine (l1New_any A n c bs _ ((hs3.alloc (Nat.le_refl _) _).more (Nat.le_refl 0) (by simp)) hb).mono ?_
  rintro e w2 ⟨rfl, hc2, hb2⟩
  have z2 : w1.heap.size + 1 ≤ w2.heap.size := by simpa using hb2.size
  have hgl := hc2.lt
  have P2 := hide (Blk.belowH (Blk.new w1 37 (#[.int .i64 r.way, .int .i64 r.pal.w, .int .i64 r.pal.d, .int .i64 r.pal.h, .int .i64 r.pal.gram, .int .i64 r.cls, .slice A1 n1 c1, .slice A2 n2 c2, .int .i64 r.master, .slice A3 n3 c3]) (g := w1.heap.size) rfl) hb2)
  have Z2 := hide (Blk.belowH (Z1.out.alloc _) hb2)
  have L2 := hide (show Below w.heap.size w w2 from (by repeat (first | with_reducible exact Below.refl _ _ | with_reducible assumption | with_reducible refine Below.setCell ?_ (by (try simp) <;> omega) _ | with_reducible refine Below.alloc ?_ (by (try simp) <;> omega) _ | with_reducible refine Below.drew ?_ | with_reducible refine below_drewN ?_ _ | with_reducible exact L1.out | with_reducible exact hb2 | with_reducible refine Below.trans ?_ (Below.mono L1.out (by (try simp) <;> omega)) | with_reducible refine Below.trans ?_ (Below.mono hb2 (by (try simp) <;> omega)))))
  have HR2 := hide (((HR1.out.alloc (Nat.le_refl _) _).below (B := (w1.alloc (.cells (#[.int .i64 r.way, .int .i64 r.pal.w, .int .i64 r.pal.d, .int .i64 r.pal.h, .int .i64 r.pal.gram, .int .i64 r.cls, .slice A1 n1 c1, .slice A2 n2 c2, .int .i64 r.master, .slice A3 n3 c3]) 37)).heap.size) hb2 (by simp)))
  have HU2 := hide (((HU1.out.alloc (Nat.le_refl _) _).below (B := (w1.alloc (.cells (#[.int .i64 r.way, .int .i64 r.pal.w, .int .i64 r.pal.d, .int .i64 r.pal.h, .int .i64 r.pal.gram, .int .i64 r.cls, .slice A1 n1 c1, .slice A2 n2 c2, .int .i64 r.master, .slice A3 n3 c3]) 37)).heap.size) hb2 (by simp)))
  have HC2 := hide hc2
  simp only [World.size_alloc] at hgl
  clear hb2 hc2 Z1 L1 HR1 HU1 hs3
  simp only [World.size_alloc] at HC2
  have hnf : w.heap.size ≠ w1.heap.size := by omega
  have hne : w1.heap.size ≠ w.heap.size := by omega
  go_wp2_with fail
  refine (l1Once_any 4 (by omega) (by omega) _ A n c bs _ HC2.out).mono ?_
  rintro e w3 ⟨⟨tt, rfl⟩, hc3, hg3⟩
  have z3 := hg3.size
  have HC3 := hide hc3
  have Z3 := hide (Z2.out.grown hg3 (fun e => by have e2 : w.heap.size = w1.heap.size + 1 := Option.some.inj e; omega))
  have P3 := hide (P2.out.grown hg3 (fun e => by have e2 : w1.heap.size = w1.heap.size + 1 := Option.some.inj e; omega))
  have L3 := hide (L2.out.grown hg3 (by omega) (fun x hx => by have hx2 : w1.heap.size + 1 = x := Option.some.inj hx; omega))
  have HR3 := hide (HR2.out.grown hg3 (by omega) (fun x hx => .inr (by have hx2 : w1.heap.size + 1 = x := Option.some.inj hx; omega)))
  have HU3 := hide (HU2.out.grown hg3 (by omega) (fun x hx => .inr (by have hx2 : w1.heap.size + 1 = x := Option.some.inj hx; omega)))
  clear hc3 hg3 HC2 Z2 P2 L2 HR2 HU2
  have kP := P3.out.cell
  have yP := P3.out.lt
  have kZ := Z3.out.cell
  have fZ := Z3.out.frozen
  unfold rqZero at kZ
  have yZ := Z3.out.lt
  cases tt
  · go_wp2_with fail
    refine wp_region_held_drew (S := (fun w' => w'.cell? ⟨w1.heap.size, 0, none⟩ = some (.int .i64 r.way) ∧ w'.cell? ⟨w1.heap.size, 1, none⟩ = some (.int .i64 r.pal.w) ∧ w'.cell? ⟨w1.heap.size, 2, none⟩ = some (.int .i64 r.pal.d) ∧ w'.cell? ⟨w1.heap.size, 3, none⟩ = some (.int .i64 r.pal.h) ∧ w'.cell? ⟨w1.heap.size, 4, none⟩ = some (.int .i64 r.pal.gram) ∧ w'.cell? ⟨w1.heap.size, 5, none⟩ = some (.int .i64 r.cls) ∧ w'.cell? ⟨w1.heap.size, 6, none⟩ = some (.slice A1 n1 c1) ∧ w'.cell? ⟨w1.heap.size, 7, none⟩ = some (.slice A2 n2 c2) ∧ w'.cell? ⟨w1.heap.size, 8, none⟩ = some (.int .i64 r.master) ∧ w'.cell? ⟨w1.heap.size, 9, none⟩ = some (.slice A3 n3 c3))) (by kernel_rfl) ?hS0 (fun hHeld => ?_)
    case hS0 => (go_keep)
    refine wpAnyH_take (i := 0) (v := ?_) rfl (by kernel_rfl) (by kernel_rfl) (by kernel_rfl) (fun _ _ _ h => h) (Or.inl ⟨by rfl, ?_⟩) (by assumption) ?_
    rotate_left 1
    · intro w hSw
      try dsimp only at hSw
      go_simp
      try with_reducible rfl
    simp only [Act.put, List.getElem_toArray, List.getElem_cons_succ, List.getElem_cons_zero, List.setIfInBounds_toArray, List.set_cons_zero, List.set_cons_succ]
    refine wpAnyH_take (i := 1) (v := ?_) rfl (by kernel_rfl) (by kernel_rfl) (by kernel_rfl) (fun _ _ _ h => h) (Or.inl ⟨by rfl, ?_⟩) (by assumption) ?_
    rotate_left 1
    · intro w hSw
      try dsimp only at hSw
      go_simp
      try with_reducible rfl
    simp only [Act.put, List.getElem_toArray, List.getElem_cons_succ, List.getElem_cons_zero, List.setIfInBounds_toArray, List.set_cons_zero, List.set_cons_succ]
    refine wpAnyH_take (i := 2) (v := ?_) rfl (by kernel_rfl) (by kernel_rfl) (by kernel_rfl) (fun _ _ _ h => h) (Or.inl ⟨by rfl, ?_⟩) (by assumption) ?_
    rotate_left 1
    · intro w hSw
      try dsimp only at hSw
      go_simp
      try with_reducible rfl
    simp only [Act.put, List.getElem_toArray, List.getElem_cons_succ, List.getElem_cons_zero, List.setIfInBounds_toArray, List.set_cons_zero, List.set_cons_succ]
    refine wpAnyH_ready (rs := [3]) (by kernel_rfl) (by simp) ?_
    refine AllReadyH.cons rfl (fun K hK => ?_) AllReadyH.nil
    go_simp
    refine (l1Below_any 2 (by omega) (by omega) _ A n c bs _ HC3.out.drew).mono ?_
    rintro e w4 ⟨⟨q, rfl, hq0, hq1⟩, hc4, hg4⟩
    have hgd := grown_trans (grown_drew w3 (some (w1.heap.size + 1))) hg4
    have z4 := hgd.size
    have Z4 := hide (Z3.out.grown hgd (fun e => by have e2 : w.heap.size = w1.heap.size + 1 := Option.some.inj e; omega))
    have P4 := hide (P3.out.grown hgd (fun e => by have e2 : w1.heap.size = w1.heap.size + 1 := Option.some.inj e; omega))
    have L4 := hide (L3.out.grown hgd (by omega) (fun x hx => by have hx2 : w1.heap.size + 1 = x := Option.some.inj hx; omega))
    have HR4 := hide (HR3.out.grown hgd (by omega) (fun x hx => .inr (by have hx2 : w1.heap.size + 1 = x := Option.some.inj hx; omega)))
    clear hc4 hg4 hgd kP yP kZ fZ yZ
    have kP := P4.out.cell
    have yP := P4.out.lt
    have kZ := Z4.out.cell
    have fZ := Z4.out.frozen
    unfold rqZero at kZ
    have yZ := Z4.out.lt
    go_wp2_with fail
    refine hK.out _ _ ?hS1 (fun hHeld => ?_)
    case hS1 => (try dsimp only); (first | (with_reducible assumption) | go_keep)
    clear hK K
    try simp only [Act.put, List.getElem_toArray, List.getElem_cons_succ, List.getElem_cons_zero, List.setIfInBounds_toArray, List.set_cons_zero, List.set_cons_succ]
    refine wpAnyH_ready (rs := [4]) (by kernel_rfl) (by simp) ?_
    refine AllReadyH.cons rfl (fun K hK => ?_) AllReadyH.nil
    go_simp
    refine (sunitsOf_any q r A1 A2 A3 n1 n2 n3 c1 c2 c3 (w.heap.size + 1) w1.heap.size _ HR4.out (by omega)).mono ?_
    rintro e w5 ⟨v5, rfl, ho5, hb5⟩
    obtain ⟨n5, hn5⟩ : ∃ n5, (uoL r q).length = n5 := ⟨_, rfl⟩
    have hn5b : n5 ≤ 12 := by rw [← hn5]; exact uoL_12 r q
    obtain ⟨A5, c5, rfl, s5⟩ := Own.slk' encInt_len hn5 ho5
    have z5 := hb5.size
    have HU5 := hide s5
    have Z5 := hide (Blk.belowH Z4.out hb5)
    have P5 := hide (Blk.belowH P4.out hb5)
    have L5 := hide (L4.out.trans (hb5.mono (by omega)))
    have HR5 := hide (HR4.out.below hb5 (by omega))
    clear ho5 s5 hb5 kP yP kZ fZ yZ
    have kP := P5.out.cell
    have yP := P5.out.lt
    have kZ := Z5.out.cell
    have fZ := Z5.out.frozen
    unfold rqZero at kZ
    have yZ := Z5.out.lt
    go_wp2_with fail
    refine hK.out _ _ ?hS1 (fun hHeld => ?_)
    case hS1 => (try dsimp only); (first | (with_reducible assumption) | go_keep)
    clear hK K
    try simp only [Act.put, List.getElem_toArray, List.getElem_cons_succ, List.getElem_cons_zero, List.setIfInBounds_toArray, List.set_cons_zero, List.set_cons_succ]
    refine wpAnyH_ready (rs := [5]) (by kernel_rfl) (by simp) ?_
    refine AllReadyH.cons rfl (fun K hK => ?_) AllReadyH.nil
    go_simp
    refine hK.out _ _ ?hS1 (fun hHeld => ?_)
    case hS1 => (try dsimp only); (first | (with_reducible assumption) | go_keep)
    clear hK K
    try simp only [Act.put, List.getElem_toArray, List.getElem_cons_succ, List.getElem_cons_zero, List.setIfInBounds_toArray, List.set_cons_zero, List.set_cons_succ]
    refine wpAnyH_ready (rs := [6]) (by kernel_rfl) (by simp) ?_
    refine AllReadyH.cons rfl (fun K hK => ?_) AllReadyH.nil
    go_simp
    refine hK.out _ _ ?hS1 (fun hHeld => ?_)
    case hS1 => (try dsimp only); (first | (with_reducible assumption) | go_keep)
    clear hK K
    try simp only [Act.put, List.getElem_toArray, List.getElem_cons_succ, List.getElem_cons_zero, List.setIfInBounds_toArray, List.set_cons_zero, List.set_cons_succ]
    refine wpAnyH_done (by kernel_rfl) ?_ _
    go_wp2_with fail
    have hz10 := Z5.out
    unfold rqZero at hz10
    obtain ⟨hB10, hg10⟩ := st10 hz10 (.int .i64 r.way) (.int .i64 r.pal.w) (.int .i64 r.pal.d) (.int .i64 r.pal.h) (.int .i64 r.pal.gram) (.int .i64 r.cls) (.slice A1 n1 c1) (.slice A2 n2 c2) (.int .i64 r.master) (.slice A3 n3 c3)
    refine ret_cell2 Tryz.results79 rfl hB10 Tryz.underlying37 rfl (by kernel_rfl) rfl ?_
    exact ⟨⟨r, A1, n1, c1, A2, n2, c2, A3, n3, c3, uoL r q, _, _, _, rfl, ⟨slk_fin (HR5.out.pr.more (by omega) (by omega)) hg10, slk_fin (HR5.out.ty.more (by omega) (by omega)) hg10, slk_fin (HR5.out.it.more (by omega) (by omega)) hg10⟩, slk_fin (HU5.out.more (by omega) (by omega)) hg10, hn1, hn2, hn3, by omega⟩, L5.out.grown hg10 (by omega) (fun x hx => by have hx2 : w.heap.size = x := Option.some.inj hx; omega)⟩
  · go_wp2_with fail
    have hz10 := Z3.out
    unfold rqZero at hz10
    obtain ⟨hB10, hg10⟩ := st10 hz10 (.int .i64 r.way) (.int .i64 r.pal.w) (.int .i64 r.pal.d) (.int .i64 r.pal.h) (.int .i64 r.pal.gram) (.int .i64 r.cls) (.slice A1 n1 c1) (.slice A2 n2 c2) (.int .i64 r.master) (.slice A3 n3 c3)
    refine ret_cell2 Tryz.results79 rfl hB10 Tryz.underlying37 rfl (by kernel_rfl) rfl ?_
    exact ⟨⟨r, A1, n1, c1, A2, n2, c2, A3, n3, c3, us, _, _, _, rfl, ⟨slk_fin (HR3.out.pr.more (by omega) (by omega)) hg10, slk_fin (HR3.out.ty.more (by omega) (by omega)) hg10, slk_fin (HR3.out.it.more (by omega) (by omega)) hg10⟩, slk_fin (HU3.out.more (by omega) (by omega)) hg10, hn1, hn2, hn3, by omega⟩, L3.out.grown hg10 (by omega) (fun x hx => by have hx2 : w.heap.size = x := Option.some.inj hx; omega)⟩
set_option maxRecDepth 20000 in
set_option maxHeartbeats 2000000 in
theorem drawRoom_any (A : Option Addr) (n c : Nat) (bs : List Int) (w : World) (hs : SlK 1 encByte w 0 w.heap.size A n c bs) (hb : ∀ b ∈ bs, 0 ≤ b ∧ b ≤ 255) :
    Calls Tryz.prog 36 #[.slice A n c] w fun e w' => (∃ (r : Rq) (A1 : Option Addr) (n1 c1 : Nat) (A2 : Option Addr) (n2 c2 : Nat) (A3 : Option Addr) (n3 c3 : Nat) (us : List Int) (A4 : Option Addr) (n4 c4 : Nat) (x : Int), e = .returned (.tuple #[.agg #[.int .i64 r.way, .int .i64 r.pal.w, .int .i64 r.pal.d, .int .i64 r.pal.h, .int .i64 r.pal.gram, .int .i64 r.cls, .slice A1 n1 c1, .slice A2 n2 c2, .int .i64 r.master, .slice A3 n3 c3], .slice A4 n4 c4, .int .i64 x]) ∧ RqAt w' w.heap.size w'.heap.size r A1 n1 c1 A2 n2 c2 A3 n3 c3 ∧ SlK 1 encInt w' w.heap.size w'.heap.size A4 n4 c4 us ∧ n1 ≤ 33 ∧ n2 ≤ 6 ∧ n3 ≤ 6 ∧ n4 ≤ 5 ∧ -1 ≤ x ∧ x ≤ 12) ∧ Below w.heap.size w w' := by
  have hs2 := (hs.alloc (Nat.le_refl _) (.cells rqZero 37)).more (Nat.le_refl 0) (show w.heap.size ≤ (w.alloc (.cells rqZero 37)).heap.size by (try simp) <;> omega)
  go_enter Tryz.func36, Tryz.ntmps36
  go_wp2_with fail
  refine (l6List_any A n c bs _ hs2 hb).mono ?_
  rintro e w1 ⟨⟨r, A1, n1, c1, A2, n2, c2, A3, n3, c3, us, A4, n4, c4, rfl, hr, hu, hn1, hn2, hn3, hn4⟩, hb1⟩
  have z1 : w.heap.size + 1 ≤ w1.heap.size := by simpa using hb1.size
  have hs3 := (hs2.below hb1 (by simp)).more (Nat.le_refl 0) (show (w.alloc (.cells rqZero 37)).heap.size ≤ w1.heap.size by simpa using hb1.size)
  have Z1 := hide (Blk.belowH (Blk.new w 37 rqZero rfl) hb1)
  have L1 := hide (show Below w.heap.size w w1 from (by repeat (first | with_reducible exact Below.refl _ _ | with_reducible assumption | with_reducible refine Below.setCell ?_ (by (try simp) <;> omega) _ | with_reducible refine Below.alloc ?_ (by (try simp) <;> omega) _ | with_reducible refine Below.drew ?_ | with_reducible refine below_drewN ?_ _ | with_reducible exact hb1 | with_reducible refine Below.trans ?_ (Below.mono hb1 (by (try simp) <;> omega)))))
  simp only [World.size_alloc] at hr hu
  have huc := hu.cap
  have hum := hu.max
  have HR1 := hide hr
  have HU1 := hide hu
  clear hr hu hb1 hs hs2
  have hnf : w.heap.size ≠ w1.heap.size := by omega
  have hne : w1.heap.size ≠ w.heap.size := by omega
  have P1 := hide (Blk.new w1 37 (#[.int .i64 r.way, .int .i64 r.pal.w, .int .i64 r.pal.d, .int .i64 r.pal.h, .int .i64 r.pal.gram, .int .i64 r.cls, .slice A1 n1 c1, .slice A2 n2 c2, .int .i64 r.master, .slice A3 n3 c3]) (g := w1.heap.size) rfl)
  have Z1a := hide (Z1.out.alloc (.cells (#[.int .i64 r.way, .int .i64 r.pal.w, .int .i64 r.pal.d, .int .i64 r.pal.h, .int .i64 r.pal.gram, .int .i64 r.cls, .slice A1 n1 c1, .slice A2 n2 c2, .int .i64 r.master, .slice A3 n3 c3]) 37))
  have kP := P1.out.cell
  have yP := P1.out.lt
  have kZ := Z1a.out.cell
  have fZ := Z1a.out.frozen
  unfold rqZero at kZ
  have yZ := Z1a.out.lt
  go_wp2_with fail
  refine wp_region_held_drew (S := (fun w' => w'.cell? ⟨w1.heap.size, 0, none⟩ = some (.int .i64 r.way) ∧ w'.cell? ⟨w1.heap.size, 1, none⟩ = some (.int .i64 r.pal.w) ∧ w'.cell? ⟨w1.heap.size, 2, none⟩ = some (.int .i64 r.pal.d) ∧ w'.cell? ⟨w1.heap.size, 3, none⟩ = some (.int .i64 r.pal.h) ∧ w'.cell? ⟨w1.heap.size, 4, none⟩ = some (.int .i64 r.pal.gram) ∧ w'.cell? ⟨w1.heap.size, 5, none⟩ = some (.int .i64 r.cls) ∧ w'.cell? ⟨w1.heap.size, 6, none⟩ = some (.slice A1 n1 c1) ∧ w'.cell? ⟨w1.heap.size, 7, none⟩ = some (.slice A2 n2 c2) ∧ w'.cell? ⟨w1.heap.size, 8, none⟩ = some (.int .i64 r.master) ∧ w'.cell? ⟨w1.heap.size, 9, none⟩ = some (.slice A3 n3 c3))) (by kernel_rfl) ?hS0 (fun hHeld => ?_)
  case hS0 => (go_keep)
  refine wpAnyH_take (i := 0) (v := ?_) rfl (by kernel_rfl) (by kernel_rfl) (by kernel_rfl) (fun _ _ _ h => h) (Or.inl ⟨by rfl, ?_⟩) (by assumption) ?_
  rotate_left 1
  · intro w hSw
    try dsimp only at hSw
    go_simp
    try with_reducible rfl
  simp only [Act.put, List.getElem_toArray, List.getElem_cons_succ, List.getElem_cons_zero, List.setIfInBounds_toArray, List.set_cons_zero, List.set_cons_succ]
  refine wpAnyH_take (i := 1) (v := ?_) rfl (by kernel_rfl) (by kernel_rfl) (by kernel_rfl) (fun _ _ _ h => h) (Or.inl ⟨by rfl, ?_⟩) (by assumption) ?_
  rotate_left 1
  · intro w hSw
    try dsimp only at hSw
    go_simp
    try with_reducible rfl
  simp only [Act.put, List.getElem_toArray, List.getElem_cons_succ, List.getElem_cons_zero, List.setIfInBounds_toArray, List.set_cons_zero, List.set_cons_succ]
  refine wpAnyH_take (i := 2) (v := ?_) rfl (by kernel_rfl) (by kernel_rfl) (by kernel_rfl) (fun _ _ _ h => h) (Or.inl ⟨by rfl, ?_⟩) (by assumption) ?_
  rotate_left 1
  · intro w hSw
    try dsimp only at hSw
    go_simp
    try with_reducible rfl
  simp only [Act.put, List.getElem_toArray, List.getElem_cons_succ, List.getElem_cons_zero, List.setIfInBounds_toArray, List.set_cons_zero, List.set_cons_succ]
  refine wpAnyH_ready (rs := [3]) (by kernel_rfl) (by simp) ?_
  refine AllReadyH.cons rfl (fun K hK => ?_) AllReadyH.nil
  go_simp
  refine (l1New_any A n c bs _ (((hs3.alloc (Nat.le_refl _) _).more (Nat.le_refl 0) (by simp)).drew) hb).mono ?_
  rintro e w2 ⟨rfl, hc2, hb2⟩
  have hb2d : Below (w1.alloc (.cells (#[.int .i64 r.way, .int .i64 r.pal.w, .int .i64 r.pal.d, .int .i64 r.pal.h, .int .i64 r.pal.gram, .int .i64 r.cls, .slice A1 n1 c1, .slice A2 n2 c2, .int .i64 r.master, .slice A3 n3 c3]) 37)).heap.size (w1.alloc (.cells (#[.int .i64 r.way, .int .i64 r.pal.w, .int .i64 r.pal.d, .int .i64 r.pal.h, .int .i64 r.pal.gram, .int .i64 r.cls, .slice A1 n1 c1, .slice A2 n2 c2, .int .i64 r.master, .slice A3 n3 c3]) 37)) w2 := (by repeat (first | with_reducible exact Below.refl _ _ | with_reducible assumption | with_reducible refine Below.setCell ?_ (by (try simp) <;> omega) _ | with_reducible refine Below.alloc ?_ (by (try simp) <;> omega) _ | with_reducible refine Below.drew ?_ | with_reducible refine below_drewN ?_ _ | with_reducible exact hb2 | with_reducible refine Below.trans ?_ (Below.mono hb2 (by (try simp) <;> omega))))
  have z2 : w1.heap.size + 1 ≤ w2.heap.size := by simpa using hb2.size
  have hgl := hc2.lt
  have P2 := hide (Blk.belowH (Blk.new w1 37 (#[.int .i64 r.way, .int .i64 r.pal.w, .int .i64 r.pal.d, .int .i64 r.pal.h, .int .i64 r.pal.gram, .int .i64 r.cls, .slice A1 n1 c1, .slice A2 n2 c2, .int .i64 r.master, .slice A3 n3 c3]) (g := w1.heap.size) rfl) hb2d)
  have Z2 := hide (Blk.belowH (Z1.out.alloc _) hb2d)
  have L2 := hide (show Below w.heap.size w w2 from (by repeat (first | with_reducible exact Below.refl _ _ | with_reducible assumption | with_reducible refine Below.setCell ?_ (by (try simp) <;> omega) _ | with_reducible refine Below.alloc ?_ (by (try simp) <;> omega) _ | with_reducible refine Below.drew ?_ | with_reducible refine below_drewN ?_ _ | with_reducible exact L1.out | with_reducible exact hb2d | with_reducible refine Below.trans ?_ (Below.mono L1.out (by (try simp) <;> omega)) | with_reducible refine Below.trans ?_ (Below.mono hb2d (by (try simp) <;> omega)))))
  have HR2 := hide (((HR1.out.alloc (Nat.le_refl _) _).below hb2d (by simp)))
  have HU2 := hide (((HU1.out.alloc (Nat.le_refl _) _).below hb2d (by simp)))
  have HC2 := hide hc2
  simp only [World.size_drew, World.size_alloc] at hgl HC2
  clear hb2 hb2d hc2 Z1 L1 HR1 HU1 hs3 kP yP kZ fZ yZ
  have kP := P2.out.cell
  have yP := P2.out.lt
  have kZ := Z2.out.cell
  have fZ := Z2.out.frozen
  unfold rqZero at kZ
  have yZ := Z2.out.lt
  go_wp2_with fail
  refine hK.out _ _ ?hS1 (fun hHeld => ?_)
  case hS1 => (try dsimp only); (first | (with_reducible assumption) | go_keep)
  clear hK K
  try simp only [Act.put, List.getElem_toArray, List.getElem_cons_succ, List.getElem_cons_zero, List.setIfInBounds_toArray, List.set_cons_zero, List.set_cons_succ]
  refine wpAnyH_ready (rs := [4]) (by kernel_rfl) (by simp) ?_
  refine AllReadyH.cons rfl (fun K hK => ?_) AllReadyH.nil
  go_simp
  refine (l1Below_any 14 (by omega) (by omega) _ A n c bs _ HC2.out).mono ?_
  rintro e w3 ⟨⟨x, rfl, hx0, hx1⟩, hc3, hg3⟩
  have z3 := hg3.size
  have Z3 := hide (Z2.out.grown hg3 (fun e => by have e2 : w.heap.size = w1.heap.size + 1 := Option.some.inj e; omega))
  have P3 := hide (P2.out.grown hg3 (fun e => by have e2 : w1.heap.size = w1.heap.size + 1 := Option.some.inj e; omega))
  have L3 := hide (L2.out.grown hg3 (by omega) (fun x hx => by have hx2 : w1.heap.size + 1 = x := Option.some.inj hx; omega))
  have HR3 := hide (HR2.out.grown hg3 (by omega) (fun x hx => .inr (by have hx2 : w1.heap.size + 1 = x := Option.some.inj hx; omega)))
  have HU3 := hide (HU2.out.grown hg3 (by omega) (fun x hx => .inr (by have hx2 : w1.heap.size + 1 = x := Option.some.inj hx; omega)))
  clear hc3 hg3 HC2 Z2 P2 L2 HR2 HU2 kP yP kZ fZ yZ
  have kP := P3.out.cell
  have yP := P3.out.lt
  have kZ := Z3.out.cell
  have fZ := Z3.out.frozen
  unfold rqZero at kZ
  have yZ := Z3.out.lt
  go_wp2_with fail
  refine hK.out _ _ ?hS1 (fun hHeld => ?_)
  case hS1 => (try dsimp only); (first | (with_reducible assumption) | go_keep)
  clear hK K
  try simp only [Act.put, List.getElem_toArray, List.getElem_cons_succ, List.getElem_cons_zero, List.setIfInBounds_toArray, List.set_cons_zero, List.set_cons_succ]
  refine wpAnyH_take (i := 5) (v := ?_) rfl (by kernel_rfl) (by kernel_rfl) (by kernel_rfl) (fun _ _ _ h => h) (Or.inl ⟨by rfl, ?_⟩) (by assumption) ?_
  rotate_left 1
  · intro w hSw
    try dsimp only at hSw
    go_simp
    try with_reducible rfl
  simp only [Act.put, List.getElem_toArray, List.getElem_cons_succ, List.getElem_cons_zero, List.setIfInBounds_toArray, List.set_cons_zero, List.set_cons_succ]
  refine wpAnyH_ready (rs := [6]) (by kernel_rfl) (by simp) ?_
  refine AllReadyH.cons rfl (fun K hK => ?_) AllReadyH.nil
  go_simp
  refine hK.out _ _ ?hS1 (fun hHeld => ?_)
  case hS1 => (try dsimp only); (first | (with_reducible assumption) | go_keep)
  clear hK K
  try simp only [Act.put, List.getElem_toArray, List.getElem_cons_succ, List.getElem_cons_zero, List.setIfInBounds_toArray, List.set_cons_zero, List.set_cons_succ]
  refine wpAnyH_take (i := 7) (v := ?_) rfl (by kernel_rfl) (by kernel_rfl) (by kernel_rfl) (fun _ _ _ h => h) (Or.inl ⟨by rfl, ?_⟩) (by assumption) ?_
  rotate_left 1
  · intro w hSw
    try dsimp only at hSw
    go_simp
    try with_reducible rfl
  simp only [Act.put, List.getElem_toArray, List.getElem_cons_succ, List.getElem_cons_zero, List.setIfInBounds_toArray, List.set_cons_zero, List.set_cons_succ]
  refine wpAnyH_ready (rs := [8]) (by kernel_rfl) (by simp) ?_
  refine AllReadyH.cons rfl (fun K hK => ?_) AllReadyH.nil
  go_simp
  refine hK.out _ _ ?hS1 (fun hHeld => ?_)
  case hS1 => (try dsimp only); (first | (with_reducible assumption) | go_keep)
  clear hK K
  try simp only [Act.put, List.getElem_toArray, List.getElem_cons_succ, List.getElem_cons_zero, List.setIfInBounds_toArray, List.set_cons_zero, List.set_cons_succ]
  refine wpAnyH_done (by kernel_rfl) ?_ _
  go_wp2_with fail
  have hwx : IntKind.i64.wrap (x - 1) = x - 1 := by rw [IntKind.wrap_i64]; omega
  have hz10 := Z3.out
  unfold rqZero at hz10
  obtain ⟨hB10, hg10⟩ := st10 hz10 (.int .i64 r.way) (.int .i64 r.pal.w) (.int .i64 r.pal.d) (.int .i64 r.pal.h) (.int .i64 r.pal.gram) (.int .i64 r.cls) (.slice A1 n1 c1) (.slice A2 n2 c2) (.int .i64 r.master) (.slice A3 n3 c3)
  refine ret_cell3 Tryz.results36 rfl hB10 Tryz.underlying37 rfl (by kernel_rfl) rfl ?_
  exact ⟨⟨r, A1, n1, c1, A2, n2, c2, A3, n3, c3, us, _, _, _, IntKind.i64.wrap (x - 1), rfl, ⟨slk_fin (HR3.out.pr.more (by omega) (by omega)) hg10, slk_fin (HR3.out.ty.more (by omega) (by omega)) hg10, slk_fin (HR3.out.it.more (by omega) (by omega)) hg10⟩, slk_fin (HU3.out.more (by omega) (by omega)) hg10, hn1, hn2, hn3, hn4, by rw [hwx]; omega, by rw [hwx]; omega⟩, L3.out.grown hg10 (by omega) (fun x hx => by have hx2 : w.heap.size = x := Option.some.inj hx; omega)⟩
theorem fin_two {α : Type} {k : Nat} {enc : α → List Value} {W W1 W2 : World} {s lo hi : Nat} {A : Option Addr} {n c : Nat} {xs : List α} (h : SlK k enc W lo hi A n c xs) (hl : s + 2 ≤ lo) (hh : hi ≤ W.heap.size) (h1 : W.grownBy W1 (some s)) (h2 : W1.grownBy W2 (some (s + 1))) : SlK k enc W2 s W2.heap.size A n c xs := by
  have hs1 := h1.size
  have hs2 := h2.size
  exact ((h.grown h1 hh (fun x hx => by have hx2 : s = x := Option.some.inj hx; omega)).grown h2 (by omega) (fun x hx => by have hx2 : s + 1 = x := Option.some.inj hx; omega)).more (by omega) (by omega)

set_option maxRecDepth 20000 in
set_option maxHeartbeats 2000000 in
theorem drawHolds_any (A : Option Addr) (n c : Nat) (bs : List Int) (w : World) (hs : SlK 1 encByte w 0 w.heap.size A n c bs) (hb : ∀ b ∈ bs, 0 ≤ b ∧ b ≤ 255) :
    Calls Tryz.prog 37 #[.slice A n c] w fun e w' => (∃ (r : Rq) (A1 : Option Addr) (n1 c1 : Nat) (A2 : Option Addr) (n2 c2 : Nat) (A3 : Option Addr) (n3 c3 : Nat) (us : List Int) (A4 : Option Addr) (n4 c4 : Nat) (t : Ty), e = .returned (.tuple #[.agg #[.int .i64 r.way, .int .i64 r.pal.w, .int .i64 r.pal.d, .int .i64 r.pal.h, .int .i64 r.pal.gram, .int .i64 r.cls, .slice A1 n1 c1, .slice A2 n2 c2, .int .i64 r.master, .slice A3 n3 c3], .slice A4 n4 c4, .agg #[.int .i64 t.id, .int .i64 t.w, .int .i64 t.h, .int .i64 t.d, .int .i64 t.tare, .int .i64 t.gram, .int .i64 t.cost]]) ∧ RqAt w' w.heap.size w'.heap.size r A1 n1 c1 A2 n2 c2 A3 n3 c3 ∧ SlK 1 encInt w' w.heap.size w'.heap.size A4 n4 c4 us ∧ n1 ≤ 33 ∧ n2 ≤ 6 ∧ n3 ≤ 6 ∧ n4 ≤ 12) ∧ Below w.heap.size w w' := by
  have hs2 := ((hs.alloc (Nat.le_refl _) (.cells rqZero 37)).alloc (by simp) (.cells #[.int .i64 0, .int .i64 0, .int .i64 0, .int .i64 0, .int .i64 0, .int .i64 0, .int .i64 0] 48)).more (Nat.le_refl 0) (show w.heap.size ≤ ((w.alloc (.cells rqZero 37)).alloc (.cells #[.int .i64 0, .int .i64 0, .int .i64 0, .int .i64 0, .int .i64 0, .int .i64 0, .int .i64 0] 48)).heap.size by (try simp) <;> omega)
  go_enter Tryz.func37, Tryz.ntmps37
  go_wp2_with fail
  refine (l7Some_any A n c bs _ hs2 hb).mono ?_
  rintro e w1 ⟨⟨r, A1, n1, c1, A2, n2, c2, A3, n3, c3, us, A4, n4, c4, rfl, hr, hu, hn1, hn2, hn3, hn4⟩, hb1⟩
  have z1 : w.heap.size + 1 + 1 ≤ w1.heap.size := by simpa using hb1.size
  have hs3 := (hs2.below hb1 (by simp)).more (Nat.le_refl 0) (show ((w.alloc (.cells rqZero 37)).alloc (.cells #[.int .i64 0, .int .i64 0, .int .i64 0, .int .i64 0, .int .i64 0, .int .i64 0, .int .i64 0] 48)).heap.size ≤ w1.heap.size by simpa using hb1.size)
  have Z1 := hide (Blk.belowH ((Blk.new w 37 rqZero rfl).alloc _) hb1)
  have Y1 := hide (Blk.belowH (Blk.new (w.alloc (.cells rqZero 37)) 48 #[.int .i64 0, .int .i64 0, .int .i64 0, .int .i64 0, .int .i64 0, .int .i64 0, .int .i64 0] (g := w.heap.size + 1) (by simp)) hb1)
  have L1 := hide (show Below w.heap.size w w1 from (by repeat (first | with_reducible exact Below.refl _ _ | with_reducible assumption | with_reducible refine Below.setCell ?_ (by (try simp) <;> omega) _ | with_reducible refine Below.alloc ?_ (by (try simp) <;> omega) _ | with_reducible refine Below.drew ?_ | with_reducible refine below_drewN ?_ _ | with_reducible exact hb1 | with_reducible refine Below.trans ?_ (Below.mono hb1 (by (try simp) <;> omega)))))
  simp only [World.size_alloc] at hr hu
  have huc := hu.cap
  have hum := hu.max
  have HR1 := hide hr
  have HU1 := hide hu
  clear hr hu hb1 hs hs2
  go_wp2_with fail
  refine (l1New_any A n c bs _ ((hs3.alloc (Nat.le_refl _) _).more (Nat.le_refl 0) (by simp)) hb).mono ?_
  rintro e w2 ⟨rfl, hc2, hb2⟩
  have z2 : w1.heap.size + 1 ≤ w2.heap.size := by simpa using hb2.size
  have hgl := hc2.lt
  have P2 := hide (Blk.belowH (Blk.new w1 37 (#[.int .i64 r.way, .int .i64 r.pal.w, .int .i64 r.pal.d, .int .i64 r.pal.h, .int .i64 r.pal.gram, .int .i64 r.cls, .slice A1 n1 c1, .slice A2 n2 c2, .int .i64 r.master, .slice A3 n3 c3]) (g := w1.heap.size) rfl) hb2)
  have Z2 := hide (Blk.belowH (Z1.out.alloc _) hb2)
  have Y2 := hide (Blk.belowH (Y1.out.alloc _) hb2)
  have L2 := hide (show Below w.heap.size w w2 from (by repeat (first | with_reducible exact Below.refl _ _ | with_reducible assumption | with_reducible refine Below.setCell ?_ (by (try simp) <;> omega) _ | with_reducible refine Below.alloc ?_ (by (try simp) <;> omega) _ | with_reducible refine Below.drew ?_ | with_reducible refine below_drewN ?_ _ | with_reducible exact L1.out | with_reducible exact hb2 | with_reducible refine Below.trans ?_ (Below.mono L1.out (by (try simp) <;> omega)) | with_reducible refine Below.trans ?_ (Below.mono hb2 (by (try simp) <;> omega)))))
  have HR2 := hide (((HR1.out.alloc (Nat.le_refl _) _).below (B := (w1.alloc (.cells (#[.int .i64 r.way, .int .i64 r.pal.w, .int .i64 r.pal.d, .int .i64 r.pal.h, .int .i64 r.pal.gram, .int .i64 r.cls, .slice A1 n1 c1, .slice A2 n2 c2, .int .i64 r.master, .slice A3 n3 c3]) 37)).heap.size) hb2 (by simp)))
  have HU2 := hide (((HU1.out.alloc (Nat.le_refl _) _).below (B := (w1.alloc (.cells (#[.int .i64 r.way, .int .i64 r.pal.w, .int .i64 r.pal.d, .int .i64 r.pal.h, .int .i64 r.pal.gram, .int .i64 r.cls, .slice A1 n1 c1, .slice A2 n2 c2, .int .i64 r.master, .slice A3 n3 c3]) 37)).heap.size) hb2 (by simp)))
  have HC2 := hide hc2
  simp only [World.size_alloc] at hgl
  clear hb2 hc2 Z1 L1 HR1 HU1 hs3 Y1
  simp only [World.size_alloc] at HC2
  have hnf : w.heap.size ≠ w1.heap.size := by omega
  have hne : w1.heap.size ≠ w.heap.size := by omega
  have hnf1 : w.heap.size + 1 ≠ w1.heap.size := by omega
  have hne1 : w1.heap.size ≠ w.heap.size + 1 := by omega
  have hc2 := HR2.out.ty.cap
  have hm2 := HR2.out.ty.max
  have kP := P2.out.cell
  have yP := P2.out.lt
  have kZ := Z2.out.cell
  have fZ := Z2.out.frozen
  unfold rqZero at kZ
  have yZ := Z2.out.lt
  have kY := Y2.out.cell
  have fY := Y2.out.frozen
  have yY := Y2.out.lt
  by_cases hn20 : 0 < n2
  · have i2 : ((n2 : Int) == 0) = false := by rw [beq_eq_false_iff_ne]; omega
    obtain ⟨bt, ot, yy, _, hA2, _, hbt, _⟩ := HR2.out.ty.ty hn20
    subst hA2
    go_wp2_with fail
    refine (l1Below_any 3 (by omega) (by omega) _ A n c bs _ HC2.out).mono ?_
    rintro e w3 ⟨⟨m0, rfl, hm0, hm1⟩, hc3, hg3⟩
    obtain ⟨m, rfl⟩ := Int.eq_ofNat_of_zero_le hm0
    have z3 := hg3.size
    have HC3 := hide hc3
    have Z3 := hide (Z2.out.grown hg3 (fun e => by have e2 : w.heap.size = w1.heap.size + 1 := Option.some.inj e; omega))
    have Y3 := hide (Y2.out.grown hg3 (fun e => by have e2 : w.heap.size + 1 = w1.heap.size + 1 := Option.some.inj e; omega))
    have P3 := hide (P2.out.grown hg3 (fun e => by have e2 : w1.heap.size = w1.heap.size + 1 := Option.some.inj e; omega))
    have L3 := hide (L2.out.grown hg3 (by omega) (fun x hx => by have hx2 : w1.heap.size + 1 = x := Option.some.inj hx; omega))
    have HR3 := hide (HR2.out.grown hg3 (by omega) (fun x hx => .inr (by have hx2 : w1.heap.size + 1 = x := Option.some.inj hx; omega)))
    have HU3 := hide (HU2.out.grown hg3 (by omega) (fun x hx => .inr (by have hx2 : w1.heap.size + 1 = x := Option.some.inj hx; omega)))
    clear hc3 hg3 HC2 Z2 Y2 P2 L2 HR2 HU2 kP yP kZ fZ yZ kY fY yY
    have kP := P3.out.cell
    have yP := P3.out.lt
    have kZ := Z3.out.cell
    have fZ := Z3.out.frozen
    unfold rqZero at kZ
    have yZ := Z3.out.lt
    have kY := Y3.out.cell
    have fY := Y3.out.frozen
    have yY := Y3.out.lt
    by_cases hcut : m < n4
    · have k1 : (m : Int) < (n4 : Int) := by omega
      have k2 : (0 : Int) ≤ (m : Int) := by omega
      have k3 : (m : Int) ≤ (c4 : Int) := by omega
      go_wp2_with fail
      refine wp_region_held_drew (S := (fun w' => w'.cell? ⟨w1.heap.size, 0, none⟩ = some (.int .i64 r.way) ∧ w'.cell? ⟨w1.heap.size, 1, none⟩ = some (.int .i64 r.pal.w) ∧ w'.cell? ⟨w1.heap.size, 2, none⟩ = some (.int .i64 r.pal.d) ∧ w'.cell? ⟨w1.heap.size, 3, none⟩ = some (.int .i64 r.pal.h) ∧ w'.cell? ⟨w1.heap.size, 4, none⟩ = some (.int .i64 r.pal.gram) ∧ w'.cell? ⟨w1.heap.size, 5, none⟩ = some (.int .i64 r.cls) ∧ w'.cell? ⟨w1.heap.size, 6, none⟩ = some (.slice A1 n1 c1) ∧ w'.cell? ⟨w1.heap.size, 7, none⟩ = some (.slice (some ⟨bt, ot, none⟩) n2 c2) ∧ w'.cell? ⟨w1.heap.size, 8, none⟩ = some (.int .i64 r.master) ∧ w'.cell? ⟨w1.heap.size, 9, none⟩ = some (.slice A3 n3 c3))) (by kernel_rfl) ?hS0 (fun hHeld => ?_)
      case hS0 => (go_keep)
      refine wpAnyH_take (i := 0) (v := ?_) rfl (by kernel_rfl) (by kernel_rfl) (by kernel_rfl) (fun _ _ _ h => h) (Or.inl ⟨by rfl, ?_⟩) (by assumption) ?_
      rotate_left 1
      · intro w hSw
        try dsimp only at hSw
        go_simp
        try with_reducible rfl
      simp only [Act.put, List.getElem_toArray, List.getElem_cons_succ, List.getElem_cons_zero, List.setIfInBounds_toArray, List.set_cons_zero, List.set_cons_succ]
      refine wpAnyH_take (i := 1) (v := ?_) rfl (by kernel_rfl) (by kernel_rfl) (by kernel_rfl) (fun _ _ _ h => h) (Or.inl ⟨by rfl, ?_⟩) (by assumption) ?_
      rotate_left 1
      · intro w hSw
        try dsimp only at hSw
        go_simp
        try with_reducible rfl
      simp only [Act.put, List.getElem_toArray, List.getElem_cons_succ, List.getElem_cons_zero, List.setIfInBounds_toArray, List.set_cons_zero, List.set_cons_succ]
      refine wpAnyH_take (i := 2) (v := ?_) rfl (by kernel_rfl) (by kernel_rfl) (by kernel_rfl) (fun _ _ _ h => h) (Or.inl ⟨by rfl, ?_⟩) (by assumption) ?_
      rotate_left 1
      · intro w hSw
        try dsimp only at hSw
        go_simp
        try with_reducible rfl
      simp only [Act.put, List.getElem_toArray, List.getElem_cons_succ, List.getElem_cons_zero, List.setIfInBounds_toArray, List.set_cons_zero, List.set_cons_succ]
      refine wpAnyH_take (i := 3) (v := ?_) rfl (by kernel_rfl) (by kernel_rfl) (by kernel_rfl) (fun _ _ _ h => h) (Or.inl ⟨by rfl, ?_⟩) (by assumption) ?_
      rotate_left 1
      · intro w hSw
        try dsimp only at hSw
        go_simp
        try with_reducible rfl
      simp only [Act.put, List.getElem_toArray, List.getElem_cons_succ, List.getElem_cons_zero, List.setIfInBounds_toArray, List.set_cons_zero, List.set_cons_succ]
      refine wpAnyH_take (i := 4) (v := ?_) rfl (by kernel_rfl) (by kernel_rfl) (by kernel_rfl) (fun _ _ _ h => h) (Or.inl ⟨by rfl, ?_⟩) (by assumption) ?_
      rotate_left 1
      · intro w hSw
        try dsimp only at hSw
        go_simp
        try with_reducible rfl
      simp only [Act.put, List.getElem_toArray, List.getElem_cons_succ, List.getElem_cons_zero, List.setIfInBounds_toArray, List.set_cons_zero, List.set_cons_succ]
      refine wpAnyH_take (i := 5) (v := ?_) rfl (by kernel_rfl) (by kernel_rfl) (by kernel_rfl) (fun _ _ _ h => h) (Or.inl ⟨by rfl, ?_⟩) (by assumption) ?_
      rotate_left 1
      · intro w hSw
        try dsimp only at hSw
        go_simp
        try with_reducible rfl
      simp only [Act.put, List.getElem_toArray, List.getElem_cons_succ, List.getElem_cons_zero, List.setIfInBounds_toArray, List.set_cons_zero, List.set_cons_succ]
      refine wpAnyH_take (i := 6) (v := ?_) rfl (by kernel_rfl) (by kernel_rfl) (by kernel_rfl) (fun _ _ _ h => h) (Or.inl ⟨by rfl, ?_⟩) (by assumption) ?_
      rotate_left 1
      · intro w hSw
        try dsimp only at hSw
        go_simp
        try with_reducible rfl
      simp only [Act.put, List.getElem_toArray, List.getElem_cons_succ, List.getElem_cons_zero, List.setIfInBounds_toArray, List.set_cons_zero, List.set_cons_succ]
      refine wpAnyH_take (i := 7) (v := ?_) rfl (by kernel_rfl) (by kernel_rfl) (by kernel_rfl) (fun _ _ _ h => h) (Or.inl ⟨by rfl, ?_⟩) (by assumption) ?_
      rotate_left 1
      · intro w hSw
        try dsimp only at hSw
        go_simp
        try with_reducible rfl
      simp only [Act.put, List.getElem_toArray, List.getElem_cons_succ, List.getElem_cons_zero, List.setIfInBounds_toArray, List.set_cons_zero, List.set_cons_succ]
      refine wpAnyH_ready (rs := [8]) (by kernel_rfl) (by simp) ?_
      refine AllReadyH.cons rfl (fun K hK => ?_) AllReadyH.nil
      go_simp
      refine (l1Below_any n2 (by omega) (by omega) _ A n c bs _ HC3.out.drew).mono ?_
      rintro e w4 ⟨⟨q, rfl, hq0, hq1⟩, hc4, hg4⟩
      have hgd := grown_trans (grown_drew w3 (some (w1.heap.size + 1))) hg4
      have z4 := hgd.size
      have Z4 := hide (Z3.out.grown hgd (fun e => by have e2 : w.heap.size = w1.heap.size + 1 := Option.some.inj e; omega))
      have Y4 := hide (Y3.out.grown hgd (fun e => by have e2 : w.heap.size + 1 = w1.heap.size + 1 := Option.some.inj e; omega))
      have P4 := hide (P3.out.grown hgd (fun e => by have e2 : w1.heap.size = w1.heap.size + 1 := Option.some.inj e; omega))
      have L4 := hide (L3.out.grown hgd (by omega) (fun x hx => by have hx2 : w1.heap.size + 1 = x := Option.some.inj hx; omega))
      have HR4 := hide (HR3.out.grown hgd (by omega) (fun x hx => .inr (by have hx2 : w1.heap.size + 1 = x := Option.some.inj hx; omega)))
      have HU4 := hide (HU3.out.grown hgd (by omega) (fun x hx => .inr (by have hx2 : w1.heap.size + 1 = x := Option.some.inj hx; omega)))
      obtain ⟨qn, rfl⟩ := Int.eq_ofNat_of_zero_le hq0
      have hqn : qn < n2 := by omega
      have q0 : (0 : Int) ≤ (qn : Int) := by omega
      have q1 : (qn : Int) < (n2 : Int) := by omega
      obtain ⟨bt2, ot2, y, hy, e1, _, hbt2, t0, t1, t2, t3, t4, t5, t6, _⟩ := HR4.out.ty.ty hqn
      injection e1 with e1
      injection e1 with e1 e3
      subst e1 e3
      have hnt : w.heap.size ≠ bt := by omega
      have hnt2 : bt ≠ w.heap.size := by omega
      clear hc4 hg4 hgd kP yP kZ fZ yZ kY fY yY hy
      have kP := P4.out.cell
      have yP := P4.out.lt
      have kZ := Z4.out.cell
      have fZ := Z4.out.frozen
      unfold rqZero at kZ
      have yZ := Z4.out.lt
      have kY := Y4.out.cell
      have fY := Y4.out.frozen
      have yY := Y4.out.lt
      go_wp2_with fail
      refine hK.out _ _ ?hS1 (fun hHeld => ?_)
      case hS1 => (try dsimp only); (first | (with_reducible assumption) | go_keep)
      clear hK K
      try simp only [Act.put, List.getElem_toArray, List.getElem_cons_succ, List.getElem_cons_zero, List.setIfInBounds_toArray, List.set_cons_zero, List.set_cons_succ]
      refine wpAnyH_take (i := 9) (v := ?_) rfl (by kernel_rfl) (by kernel_rfl) (by kernel_rfl) (fun _ _ _ h => h) (Or.inl ⟨by rfl, ?_⟩) (by assumption) ?_
      rotate_left 1
      · intro w hSw
        try dsimp only at hSw
        go_simp
        try with_reducible rfl
      simp only [Act.put, List.getElem_toArray, List.getElem_cons_succ, List.getElem_cons_zero, List.setIfInBounds_toArray, List.set_cons_zero, List.set_cons_succ]
      refine wpAnyH_ready (rs := [10, 11]) (by kernel_rfl) (by simp) ?_
      refine AllReadyH.cons rfl (fun K hK => ?_) ?_
      · skip
        go_simp
        refine hK.out _ _ ?hS1 (fun hHeld => ?_)
        case hS1 => (try dsimp only); (first | (with_reducible assumption) | go_keep)
        clear hK K
        try simp only [Act.put, List.getElem_toArray, List.getElem_cons_succ, List.getElem_cons_zero, List.setIfInBounds_toArray, List.set_cons_zero, List.set_cons_succ]
        refine wpAnyH_ready (rs := [11]) (by kernel_rfl) (by simp) ?_
        refine AllReadyH.cons rfl (fun K hK => ?_) AllReadyH.nil
        go_simp
        refine hK.out _ _ ?hS1 (fun hHeld => ?_)
        case hS1 => (try dsimp only); (first | (with_reducible assumption) | go_keep)
        clear hK K
        try simp only [Act.put, List.getElem_toArray, List.getElem_cons_succ, List.getElem_cons_zero, List.setIfInBounds_toArray, List.set_cons_zero, List.set_cons_succ]
        refine wpAnyH_take (i := 12) (v := ?_) rfl (by kernel_rfl) (by kernel_rfl) (by kernel_rfl) (fun _ _ _ h => h) (Or.inl ⟨by rfl, ?_⟩) (by assumption) ?_
        rotate_left 1
        · intro w hSw
          try dsimp only at hSw
          go_simp
          try with_reducible rfl
        simp only [Act.put, List.getElem_toArray, List.getElem_cons_succ, List.getElem_cons_zero, List.setIfInBounds_toArray, List.set_cons_zero, List.set_cons_succ]
        refine wpAnyH_ready (rs := [13]) (by kernel_rfl) (by simp) ?_
        refine AllReadyH.cons rfl (fun K hK => ?_) AllReadyH.nil
        go_simp
        refine hK.out _ _ ?hS1 (fun hHeld => ?_)
        case hS1 => (try dsimp only); (first | (with_reducible assumption) | go_keep)
        clear hK K
        try simp only [Act.put, List.getElem_toArray, List.getElem_cons_succ, List.getElem_cons_zero, List.setIfInBounds_toArray, List.set_cons_zero, List.set_cons_succ]
        refine wpAnyH_done (by kernel_rfl) ?_ _
        go_wp2_with fail
        have hz10 := Z4.out
        unfold rqZero at hz10
        obtain ⟨hX1, hgx⟩ := st10 hz10 (.int .i64 r.way) (.int .i64 r.pal.w) (.int .i64 r.pal.d) (.int .i64 r.pal.h) (.int .i64 r.pal.gram) (.int .i64 r.cls) (.slice A1 n1 c1) (.slice (some ⟨bt, ot, none⟩) n2 c2) (.int .i64 r.master) (.slice A3 n3 c3)
        obtain ⟨hY1, hgy⟩ := st7 (Y4.out.grown hgx (fun e => by have e2 : w.heap.size + 1 = w.heap.size := Option.some.inj e; omega)) (.int .i64 y.id) (.int .i64 y.w) (.int .i64 y.h) (.int .i64 y.d) (.int .i64 y.tare) (.int .i64 y.gram) (.int .i64 y.cost)
        have hX2 := hX1.grown hgy (fun e => by have e2 : w.heap.size = w.heap.size + 1 := Option.some.inj e; omega)
        have hzx := hgx.size
        refine ret_celltc Tryz.results37 rfl hX2 Tryz.underlying37 rfl (by kernel_rfl) rfl hY1 Tryz.underlying48 rfl (by kernel_rfl) rfl ?_
        exact ⟨⟨r, _, _, _, _, _, _, _, _, _, us.take m, _, _, _, ⟨y.id, y.w, y.h, y.d, y.tare, y.gram, y.cost⟩, rfl, ⟨fin_two HR4.out.pr (by omega) (by omega) hgx hgy, fin_two HR4.out.ty (by omega) (by omega) hgx hgy, fin_two HR4.out.it (by omega) (by omega) hgx hgy⟩, fin_two (HU4.out.take_ (by omega)) (by omega) (by omega) hgx hgy, hn1, hn2, hn3, by omega⟩, (L4.out.grown hgx (by omega) (fun x hx => by have hx2 : w.heap.size = x := Option.some.inj hx; omega)).grown hgy (by omega) (fun x hx => by have hx2 : w.heap.size + 1 = x := Option.some.inj hx; omega)⟩
      refine AllReadyH.cons rfl (fun K hK => ?_) ?_
      · skip
        go_simp
        refine hK.out _ _ ?hS1 (fun hHeld => ?_)
        case hS1 => (try dsimp only); (first | (with_reducible assumption) | go_keep)
        clear hK K
        try simp only [Act.put, List.getElem_toArray, List.getElem_cons_succ, List.getElem_cons_zero, List.setIfInBounds_toArray, List.set_cons_zero, List.set_cons_succ]
        refine wpAnyH_take (i := 12) (v := ?_) rfl (by kernel_rfl) (by kernel_rfl) (by kernel_rfl) (fun _ _ _ h => h) (Or.inl ⟨by rfl, ?_⟩) (by assumption) ?_
        rotate_left 1
        · intro w hSw
          try dsimp only at hSw
          go_simp
          try with_reducible rfl
        simp only [Act.put, List.getElem_toArray, List.getElem_cons_succ, List.getElem_cons_zero, List.setIfInBounds_toArray, List.set_cons_zero, List.set_cons_succ]
        refine wpAnyH_ready (rs := [10]) (by kernel_rfl) (by simp) ?_
        refine AllReadyH.cons rfl (fun K hK => ?_) AllReadyH.nil
        go_simp
        refine hK.out _ _ ?hS1 (fun hHeld => ?_)
        case hS1 => (try dsimp only); (first | (with_reducible assumption) | go_keep)
        clear hK K
        try simp only [Act.put, List.getElem_toArray, List.getElem_cons_succ, List.getElem_cons_zero, List.setIfInBounds_toArray, List.set_cons_zero, List.set_cons_succ]
        refine wpAnyH_ready (rs := [13]) (by kernel_rfl) (by simp) ?_
        refine AllReadyH.cons rfl (fun K hK => ?_) AllReadyH.nil
        go_simp
        refine hK.out _ _ ?hS1 (fun hHeld => ?_)
        case hS1 => (try dsimp only); (first | (with_reducible assumption) | go_keep)
        clear hK K
        try simp only [Act.put, List.getElem_toArray, List.getElem_cons_succ, List.getElem_cons_zero, List.setIfInBounds_toArray, List.set_cons_zero, List.set_cons_succ]
        refine wpAnyH_done (by kernel_rfl) ?_ _
        go_wp2_with fail
        have hz10 := Z4.out
        unfold rqZero at hz10
        obtain ⟨hX1, hgx⟩ := st10 hz10 (.int .i64 r.way) (.int .i64 r.pal.w) (.int .i64 r.pal.d) (.int .i64 r.pal.h) (.int .i64 r.pal.gram) (.int .i64 r.cls) (.slice A1 n1 c1) (.slice (some ⟨bt, ot, none⟩) n2 c2) (.int .i64 r.master) (.slice A3 n3 c3)
        obtain ⟨hY1, hgy⟩ := st7 (Y4.out.grown hgx (fun e => by have e2 : w.heap.size + 1 = w.heap.size := Option.some.inj e; omega)) (.int .i64 y.id) (.int .i64 y.w) (.int .i64 y.h) (.int .i64 y.d) (.int .i64 y.tare) (.int .i64 y.gram) (.int .i64 y.cost)
        have hX2 := hX1.grown hgy (fun e => by have e2 : w.heap.size = w.heap.size + 1 := Option.some.inj e; omega)
        have hzx := hgx.size
        refine ret_celltc Tryz.results37 rfl hX2 Tryz.underlying37 rfl (by kernel_rfl) rfl hY1 Tryz.underlying48 rfl (by kernel_rfl) rfl ?_
        exact ⟨⟨r, _, _, _, _, _, _, _, _, _, us.take m, _, _, _, ⟨y.id, y.w, y.h, y.d, y.tare, y.gram, y.cost⟩, rfl, ⟨fin_two HR4.out.pr (by omega) (by omega) hgx hgy, fin_two HR4.out.ty (by omega) (by omega) hgx hgy, fin_two HR4.out.it (by omega) (by omega) hgx hgy⟩, fin_two (HU4.out.take_ (by omega)) (by omega) (by omega) hgx hgy, hn1, hn2, hn3, by omega⟩, (L4.out.grown hgx (by omega) (fun x hx => by have hx2 : w.heap.size = x := Option.some.inj hx; omega)).grown hgy (by omega) (fun x hx => by have hx2 : w.heap.size + 1 = x := Option.some.inj hx; omega)⟩
      exact AllReadyH.nil
    · have k1 : ¬ (m : Int) < (n4 : Int) := by omega
      go_wp2_with fail
      refine wp_region_held_drew (S := (fun w' => w'.cell? ⟨w1.heap.size, 0, none⟩ = some (.int .i64 r.way) ∧ w'.cell? ⟨w1.heap.size, 1, none⟩ = some (.int .i64 r.pal.w) ∧ w'.cell? ⟨w1.heap.size, 2, none⟩ = some (.int .i64 r.pal.d) ∧ w'.cell? ⟨w1.heap.size, 3, none⟩ = some (.int .i64 r.pal.h) ∧ w'.cell? ⟨w1.heap.size, 4, none⟩ = some (.int .i64 r.pal.gram) ∧ w'.cell? ⟨w1.heap.size, 5, none⟩ = some (.int .i64 r.cls) ∧ w'.cell? ⟨w1.heap.size, 6, none⟩ = some (.slice A1 n1 c1) ∧ w'.cell? ⟨w1.heap.size, 7, none⟩ = some (.slice (some ⟨bt, ot, none⟩) n2 c2) ∧ w'.cell? ⟨w1.heap.size, 8, none⟩ = some (.int .i64 r.master) ∧ w'.cell? ⟨w1.heap.size, 9, none⟩ = some (.slice A3 n3 c3))) (by kernel_rfl) ?hS0 (fun hHeld => ?_)
      case hS0 => (go_keep)
      refine wpAnyH_take (i := 0) (v := ?_) rfl (by kernel_rfl) (by kernel_rfl) (by kernel_rfl) (fun _ _ _ h => h) (Or.inl ⟨by rfl, ?_⟩) (by assumption) ?_
      rotate_left 1
      · intro w hSw
        try dsimp only at hSw
        go_simp
        try with_reducible rfl
      simp only [Act.put, List.getElem_toArray, List.getElem_cons_succ, List.getElem_cons_zero, List.setIfInBounds_toArray, List.set_cons_zero, List.set_cons_succ]
      refine wpAnyH_take (i := 1) (v := ?_) rfl (by kernel_rfl) (by kernel_rfl) (by kernel_rfl) (fun _ _ _ h => h) (Or.inl ⟨by rfl, ?_⟩) (by assumption) ?_
      rotate_left 1
      · intro w hSw
        try dsimp only at hSw
        go_simp
        try with_reducible rfl
      simp only [Act.put, List.getElem_toArray, List.getElem_cons_succ, List.getElem_cons_zero, List.setIfInBounds_toArray, List.set_cons_zero, List.set_cons_succ]
      refine wpAnyH_take (i := 2) (v := ?_) rfl (by kernel_rfl) (by kernel_rfl) (by kernel_rfl) (fun _ _ _ h => h) (Or.inl ⟨by rfl, ?_⟩) (by assumption) ?_
      rotate_left 1
      · intro w hSw
        try dsimp only at hSw
        go_simp
        try with_reducible rfl
      simp only [Act.put, List.getElem_toArray, List.getElem_cons_succ, List.getElem_cons_zero, List.setIfInBounds_toArray, List.set_cons_zero, List.set_cons_succ]
      refine wpAnyH_take (i := 3) (v := ?_) rfl (by kernel_rfl) (by kernel_rfl) (by kernel_rfl) (fun _ _ _ h => h) (Or.inl ⟨by rfl, ?_⟩) (by assumption) ?_
      rotate_left 1
      · intro w hSw
        try dsimp only at hSw
        go_simp
        try with_reducible rfl
      simp only [Act.put, List.getElem_toArray, List.getElem_cons_succ, List.getElem_cons_zero, List.setIfInBounds_toArray, List.set_cons_zero, List.set_cons_succ]
      refine wpAnyH_take (i := 4) (v := ?_) rfl (by kernel_rfl) (by kernel_rfl) (by kernel_rfl) (fun _ _ _ h => h) (Or.inl ⟨by rfl, ?_⟩) (by assumption) ?_
      rotate_left 1
      · intro w hSw
        try dsimp only at hSw
        go_simp
        try with_reducible rfl
      simp only [Act.put, List.getElem_toArray, List.getElem_cons_succ, List.getElem_cons_zero, List.setIfInBounds_toArray, List.set_cons_zero, List.set_cons_succ]
      refine wpAnyH_take (i := 5) (v := ?_) rfl (by kernel_rfl) (by kernel_rfl) (by kernel_rfl) (fun _ _ _ h => h) (Or.inl ⟨by rfl, ?_⟩) (by assumption) ?_
      rotate_left 1
      · intro w hSw
        try dsimp only at hSw
        go_simp
        try with_reducible rfl
      simp only [Act.put, List.getElem_toArray, List.getElem_cons_succ, List.getElem_cons_zero, List.setIfInBounds_toArray, List.set_cons_zero, List.set_cons_succ]
      refine wpAnyH_take (i := 6) (v := ?_) rfl (by kernel_rfl) (by kernel_rfl) (by kernel_rfl) (fun _ _ _ h => h) (Or.inl ⟨by rfl, ?_⟩) (by assumption) ?_
      rotate_left 1
      · intro w hSw
        try dsimp only at hSw
        go_simp
        try with_reducible rfl
      simp only [Act.put, List.getElem_toArray, List.getElem_cons_succ, List.getElem_cons_zero, List.setIfInBounds_toArray, List.set_cons_zero, List.set_cons_succ]
      refine wpAnyH_take (i := 7) (v := ?_) rfl (by kernel_rfl) (by kernel_rfl) (by kernel_rfl) (fun _ _ _ h => h) (Or.inl ⟨by rfl, ?_⟩) (by assumption) ?_
      rotate_left 1
      · intro w hSw
        try dsimp only at hSw
        go_simp
        try with_reducible rfl
      simp only [Act.put, List.getElem_toArray, List.getElem_cons_succ, List.getElem_cons_zero, List.setIfInBounds_toArray, List.set_cons_zero, List.set_cons_succ]
      refine wpAnyH_ready (rs := [8]) (by kernel_rfl) (by simp) ?_
      refine AllReadyH.cons rfl (fun K hK => ?_) AllReadyH.nil
      go_simp
      refine (l1Below_any n2 (by omega) (by omega) _ A n c bs _ HC3.out.drew).mono ?_
      rintro e w4 ⟨⟨q, rfl, hq0, hq1⟩, hc4, hg4⟩
      have hgd := grown_trans (grown_drew w3 (some (w1.heap.size + 1))) hg4
      have z4 := hgd.size
      have Z4 := hide (Z3.out.grown hgd (fun e => by have e2 : w.heap.size = w1.heap.size + 1 := Option.some.inj e; omega))
      have Y4 := hide (Y3.out.grown hgd (fun e => by have e2 : w.heap.size + 1 = w1.heap.size + 1 := Option.some.inj e; omega))
      have P4 := hide (P3.out.grown hgd (fun e => by have e2 : w1.heap.size = w1.heap.size + 1 := Option.some.inj e; omega))
      have L4 := hide (L3.out.grown hgd (by omega) (fun x hx => by have hx2 : w1.heap.size + 1 = x := Option.some.inj hx; omega))
      have HR4 := hide (HR3.out.grown hgd (by omega) (fun x hx => .inr (by have hx2 : w1.heap.size + 1 = x := Option.some.inj hx; omega)))
      have HU4 := hide (HU3.out.grown hgd (by omega) (fun x hx => .inr (by have hx2 : w1.heap.size + 1 = x := Option.some.inj hx; omega)))
      obtain ⟨qn, rfl⟩ := Int.eq_ofNat_of_zero_le hq0
      have hqn : qn < n2 := by omega
      have q0 : (0 : Int) ≤ (qn : Int) := by omega
      have q1 : (qn : Int) < (n2 : Int) := by omega
      obtain ⟨bt2, ot2, y, hy, e1, _, hbt2, t0, t1, t2, t3, t4, t5, t6, _⟩ := HR4.out.ty.ty hqn
      injection e1 with e1
      injection e1 with e1 e3
      subst e1 e3
      have hnt : w.heap.size ≠ bt := by omega
      have hnt2 : bt ≠ w.heap.size := by omega
      clear hc4 hg4 hgd kP yP kZ fZ yZ kY fY yY hy
      have kP := P4.out.cell
      have yP := P4.out.lt
      have kZ := Z4.out.cell
      have fZ := Z4.out.frozen
      unfold rqZero at kZ
      have yZ := Z4.out.lt
      have kY := Y4.out.cell
      have fY := Y4.out.frozen
      have yY := Y4.out.lt
      go_wp2_with fail
      refine hK.out _ _ ?hS1 (fun hHeld => ?_)
      case hS1 => (try dsimp only); (first | (with_reducible assumption) | go_keep)
      clear hK K
      try simp only [Act.put, List.getElem_toArray, List.getElem_cons_succ, List.getElem_cons_zero, List.setIfInBounds_toArray, List.set_cons_zero, List.set_cons_succ]
      refine wpAnyH_take (i := 9) (v := ?_) rfl (by kernel_rfl) (by kernel_rfl) (by kernel_rfl) (fun _ _ _ h => h) (Or.inl ⟨by rfl, ?_⟩) (by assumption) ?_
      rotate_left 1
      · intro w hSw
        try dsimp only at hSw
        go_simp
        try with_reducible rfl
      simp only [Act.put, List.getElem_toArray, List.getElem_cons_succ, List.getElem_cons_zero, List.setIfInBounds_toArray, List.set_cons_zero, List.set_cons_succ]
      refine wpAnyH_ready (rs := [10, 11]) (by kernel_rfl) (by simp) ?_
      refine AllReadyH.cons rfl (fun K hK => ?_) ?_
      · skip
        go_simp
        refine hK.out _ _ ?hS1 (fun hHeld => ?_)
        case hS1 => (try dsimp only); (first | (with_reducible assumption) | go_keep)
        clear hK K
        try simp only [Act.put, List.getElem_toArray, List.getElem_cons_succ, List.getElem_cons_zero, List.setIfInBounds_toArray, List.set_cons_zero, List.set_cons_succ]
        refine wpAnyH_ready (rs := [11]) (by kernel_rfl) (by simp) ?_
        refine AllReadyH.cons rfl (fun K hK => ?_) AllReadyH.nil
        go_simp
        refine hK.out _ _ ?hS1 (fun hHeld => ?_)
        case hS1 => (try dsimp only); (first | (with_reducible assumption) | go_keep)
        clear hK K
        try simp only [Act.put, List.getElem_toArray, List.getElem_cons_succ, List.getElem_cons_zero, List.setIfInBounds_toArray, List.set_cons_zero, List.set_cons_succ]
        refine wpAnyH_take (i := 12) (v := ?_) rfl (by kernel_rfl) (by kernel_rfl) (by kernel_rfl) (fun _ _ _ h => h) (Or.inl ⟨by rfl, ?_⟩) (by assumption) ?_
        rotate_left 1
        · intro w hSw
          try dsimp only at hSw
          go_simp
          try with_reducible rfl
        simp only [Act.put, List.getElem_toArray, List.getElem_cons_succ, List.getElem_cons_zero, List.setIfInBounds_toArray, List.set_cons_zero, List.set_cons_succ]
        refine wpAnyH_ready (rs := [13]) (by kernel_rfl) (by simp) ?_
        refine AllReadyH.cons rfl (fun K hK => ?_) AllReadyH.nil
        go_simp
        refine hK.out _ _ ?hS1 (fun hHeld => ?_)
        case hS1 => (try dsimp only); (first | (with_reducible assumption) | go_keep)
        clear hK K
        try simp only [Act.put, List.getElem_toArray, List.getElem_cons_succ, List.getElem_cons_zero, List.setIfInBounds_toArray, List.set_cons_zero, List.set_cons_succ]
        refine wpAnyH_done (by kernel_rfl) ?_ _
        go_wp2_with fail
        have hz10 := Z4.out
        unfold rqZero at hz10
        obtain ⟨hX1, hgx⟩ := st10 hz10 (.int .i64 r.way) (.int .i64 r.pal.w) (.int .i64 r.pal.d) (.int .i64 r.pal.h) (.int .i64 r.pal.gram) (.int .i64 r.cls) (.slice A1 n1 c1) (.slice (some ⟨bt, ot, none⟩) n2 c2) (.int .i64 r.master) (.slice A3 n3 c3)
        obtain ⟨hY1, hgy⟩ := st7 (Y4.out.grown hgx (fun e => by have e2 : w.heap.size + 1 = w.heap.size := Option.some.inj e; omega)) (.int .i64 y.id) (.int .i64 y.w) (.int .i64 y.h) (.int .i64 y.d) (.int .i64 y.tare) (.int .i64 y.gram) (.int .i64 y.cost)
        have hX2 := hX1.grown hgy (fun e => by have e2 : w.heap.size = w.heap.size + 1 := Option.some.inj e; omega)
        have hzx := hgx.size
        refine ret_celltc Tryz.results37 rfl hX2 Tryz.underlying37 rfl (by kernel_rfl) rfl hY1 Tryz.underlying48 rfl (by kernel_rfl) rfl ?_
        exact ⟨⟨r, _, _, _, _, _, _, _, _, _, us, _, _, _, ⟨y.id, y.w, y.h, y.d, y.tare, y.gram, y.cost⟩, rfl, ⟨fin_two HR4.out.pr (by omega) (by omega) hgx hgy, fin_two HR4.out.ty (by omega) (by omega) hgx hgy, fin_two HR4.out.it (by omega) (by omega) hgx hgy⟩, fin_two HU4.out (by omega) (by omega) hgx hgy, hn1, hn2, hn3, by omega⟩, (L4.out.grown hgx (by omega) (fun x hx => by have hx2 : w.heap.size = x := Option.some.inj hx; omega)).grown hgy (by omega) (fun x hx => by have hx2 : w.heap.size + 1 = x := Option.some.inj hx; omega)⟩
      refine AllReadyH.cons rfl (fun K hK => ?_) ?_
      · skip
        go_simp
        refine hK.out _ _ ?hS1 (fun hHeld => ?_)
        case hS1 => (try dsimp only); (first | (with_reducible assumption) | go_keep)
        clear hK K
        try simp only [Act.put, List.getElem_toArray, List.getElem_cons_succ, List.getElem_cons_zero, List.setIfInBounds_toArray, List.set_cons_zero, List.set_cons_succ]
        refine wpAnyH_take (i := 12) (v := ?_) rfl (by kernel_rfl) (by kernel_rfl) (by kernel_rfl) (fun _ _ _ h => h) (Or.inl ⟨by rfl, ?_⟩) (by assumption) ?_
        rotate_left 1
        · intro w hSw
          try dsimp only at hSw
          go_simp
          try with_reducible rfl
        simp only [Act.put, List.getElem_toArray, List.getElem_cons_succ, List.getElem_cons_zero, List.setIfInBounds_toArray, List.set_cons_zero, List.set_cons_succ]
        refine wpAnyH_ready (rs := [10]) (by kernel_rfl) (by simp) ?_
        refine AllReadyH.cons rfl (fun K hK => ?_) AllReadyH.nil
        go_simp
        refine hK.out _ _ ?hS1 (fun hHeld => ?_)
        case hS1 => (try dsimp only); (first | (with_reducible assumption) | go_keep)
        clear hK K
        try simp only [Act.put, List.getElem_toArray, List.getElem_cons_succ, List.getElem_cons_zero, List.setIfInBounds_toArray, List.set_cons_zero, List.set_cons_succ]
        refine wpAnyH_ready (rs := [13]) (by kernel_rfl) (by simp) ?_
        refine AllReadyH.cons rfl (fun K hK => ?_) AllReadyH.nil
        go_simp
        refine hK.out _ _ ?hS1 (fun hHeld => ?_)
        case hS1 => (try dsimp only); (first | (with_reducible assumption) | go_keep)
        clear hK K
        try simp only [Act.put, List.getElem_toArray, List.getElem_cons_succ, List.getElem_cons_zero, List.setIfInBounds_toArray, List.set_cons_zero, List.set_cons_succ]
        refine wpAnyH_done (by kernel_rfl) ?_ _
        go_wp2_with fail
        have hz10 := Z4.out
        unfold rqZero at hz10
        obtain ⟨hX1, hgx⟩ := st10 hz10 (.int .i64 r.way) (.int .i64 r.pal.w) (.int .i64 r.pal.d) (.int .i64 r.pal.h) (.int .i64 r.pal.gram) (.int .i64 r.cls) (.slice A1 n1 c1) (.slice (some ⟨bt, ot, none⟩) n2 c2) (.int .i64 r.master) (.slice A3 n3 c3)
        obtain ⟨hY1, hgy⟩ := st7 (Y4.out.grown hgx (fun e => by have e2 : w.heap.size + 1 = w.heap.size := Option.some.inj e; omega)) (.int .i64 y.id) (.int .i64 y.w) (.int .i64 y.h) (.int .i64 y.d) (.int .i64 y.tare) (.int .i64 y.gram) (.int .i64 y.cost)
        have hX2 := hX1.grown hgy (fun e => by have e2 : w.heap.size = w.heap.size + 1 := Option.some.inj e; omega)
        have hzx := hgx.size
        refine ret_celltc Tryz.results37 rfl hX2 Tryz.underlying37 rfl (by kernel_rfl) rfl hY1 Tryz.underlying48 rfl (by kernel_rfl) rfl ?_
        exact ⟨⟨r, _, _, _, _, _, _, _, _, _, us, _, _, _, ⟨y.id, y.w, y.h, y.d, y.tare, y.gram, y.cost⟩, rfl, ⟨fin_two HR4.out.pr (by omega) (by omega) hgx hgy, fin_two HR4.out.ty (by omega) (by omega) hgx hgy, fin_two HR4.out.it (by omega) (by omega) hgx hgy⟩, fin_two HU4.out (by omega) (by omega) hgx hgy, hn1, hn2, hn3, by omega⟩, (L4.out.grown hgx (by omega) (fun x hx => by have hx2 : w.heap.size = x := Option.some.inj hx; omega)).grown hgy (by omega) (fun x hx => by have hx2 : w.heap.size + 1 = x := Option.some.inj hx; omega)⟩
      exact AllReadyH.nil
  · have i2 : ((n2 : Int) == 0) = true := by rw [beq_iff_eq]; omega
    go_wp2_with fail
    have hz10 := Z2.out
    unfold rqZero at hz10
    obtain ⟨hX1, hgx⟩ := st10 hz10 (.int .i64 r.way) (.int .i64 r.pal.w) (.int .i64 r.pal.d) (.int .i64 r.pal.h) (.int .i64 r.pal.gram) (.int .i64 r.cls) (.slice A1 n1 c1) (.slice A2 n2 c2) (.int .i64 r.master) (.slice A3 n3 c3)
    obtain ⟨hY1, hgy⟩ := st7 (Y2.out.grown hgx (fun e => by have e2 : w.heap.size + 1 = w.heap.size := Option.some.inj e; omega)) (.int .i64 0) (.int .i64 0) (.int .i64 0) (.int .i64 0) (.int .i64 0) (.int .i64 0) (.int .i64 0)
    have hX2 := hX1.grown hgy (fun e => by have e2 : w.heap.size = w.heap.size + 1 := Option.some.inj e; omega)
    have hzx := hgx.size
    refine ret_celltc Tryz.results37 rfl hX2 Tryz.underlying37 rfl (by kernel_rfl) rfl hY1 Tryz.underlying48 rfl (by kernel_rfl) rfl ?_
    exact ⟨⟨r, _, _, _, _, _, _, _, _, _, us, _, _, _, ⟨0, 0, 0, 0, 0, 0, 0⟩, rfl, ⟨fin_two HR2.out.pr (by omega) (by omega) hgx hgy, fin_two HR2.out.ty (by omega) (by omega) hgx hgy, fin_two HR2.out.it (by omega) (by omega) hgx hgy⟩, fin_two HU2.out (by omega) (by omega) hgx hgy, hn1, hn2, hn3, by omega⟩, (L2.out.grown hgx (by omega) (fun x hx => by have hx2 : w.heap.size = x := Option.some.inj hx; omega)).grown hgy (by omega) (fun x hx => by have hx2 : w.heap.size + 1 = x := Option.some.inj hx; omega)⟩
set_option maxRecDepth 20000 in
set_option maxHeartbeats 2000000 in
theorem drawCheapest_any (A : Option Addr) (n c : Nat) (bs : List Int) (w : World) (hs : SlK 1 encByte w 0 w.heap.size A n c bs) (hb : ∀ b ∈ bs, 0 ≤ b ∧ b ≤ 255) :
    Calls Tryz.prog 16 #[.slice A n c] w fun e w' => (∃ (r : Rq) (A1 : Option Addr) (n1 c1 : Nat) (A2 : Option Addr) (n2 c2 : Nat) (A3 : Option Addr) (n3 c3 : Nat) (us : List Int) (A4 : Option Addr) (n4 c4 : Nat), e = .returned (.tuple #[.agg #[.int .i64 r.way, .int .i64 r.pal.w, .int .i64 r.pal.d, .int .i64 r.pal.h, .int .i64 r.pal.gram, .int .i64 r.cls, .slice A1 n1 c1, .slice A2 n2 c2, .int .i64 r.master, .slice A3 n3 c3], .slice A4 n4 c4]) ∧ RqAt w' w.heap.size w'.heap.size r A1 n1 c1 A2 n2 c2 A3 n3 c3 ∧ SlK 1 encInt w' w.heap.size w'.heap.size A4 n4 c4 us ∧ n1 ≤ 33 ∧ n2 ≤ 6 ∧ n3 ≤ 6 ∧ n4 ≤ 12) ∧ Below w.heap.size w w' := by
  have hs2 := (hs.alloc (Nat.le_refl _) (.cells rqZero 37)).more (Nat.le_refl 0) (show w.heap.size ≤ (w.alloc (.cells rqZero 37)).heap.size by simp)
  go_enter Tryz.func16, Tryz.ntmps16
  go_wp2_with fail
  refine (drawHolds_any A n c bs _ hs2 hb).mono ?_
  rintro e w1 ⟨⟨r, A1, n1, c1, A2, n2, c2, A3, n3, c3, us, A4, n4, c4, t, rfl, hr, hu, hn1, hn2, hn3, hn4⟩, hb1⟩
  have z1 : w.heap.size + 1 ≤ w1.heap.size := by simpa using hb1.size
  have Z1 := hide (Blk.belowH (Blk.new w 37 rqZero rfl) hb1)
  have L1 := hide (show Below w.heap.size w w1 from (by repeat (first | with_reducible exact Below.refl _ _ | with_reducible assumption | with_reducible refine Below.setCell ?_ (by (try simp) <;> omega) _ | with_reducible refine Below.alloc ?_ (by (try simp) <;> omega) _ | with_reducible refine Below.drew ?_ | with_reducible refine below_drewN ?_ _ | with_reducible exact hb1 | with_reducible refine Below.trans ?_ (Below.mono hb1 (by (try simp) <;> omega)))))
  simp only [World.size_alloc] at hr hu
  have HR1 := hide hr
  have HU1 := hide hu
  clear hr hu hb1 hs hs2
  have P2 := hide ((Blk.new w1 37 (#[.int .i64 r.way, .int .i64 r.pal.w, .int .i64 r.pal.d, .int .i64 r.pal.h, .int .i64 r.pal.gram, .int .i64 r.cls, .slice A1 n1 c1, .slice A2 n2 c2, .int .i64 r.master, .slice A3 n3 c3]) (g := w1.heap.size) rfl).alloc (.cells #[.int .i64 t.id, .int .i64 t.w, .int .i64 t.h, .int .i64 t.d, .int .i64 t.tare, .int .i64 t.gram, .int .i64 t.cost] 48))
  have Z2 := hide ((Z1.out.alloc (.cells (#[.int .i64 r.way, .int .i64 r.pal.w, .int .i64 r.pal.d, .int .i64 r.pal.h, .int .i64 r.pal.gram, .int .i64 r.cls, .slice A1 n1 c1, .slice A2 n2 c2, .int .i64 r.master, .slice A3 n3 c3]) 37)).alloc (.cells #[.int .i64 t.id, .int .i64 t.w, .int .i64 t.h, .int .i64 t.d, .int .i64 t.tare, .int .i64 t.gram, .int .i64 t.cost] 48))
  have L2 := hide ((L1.out.alloc (by omega) (.cells (#[.int .i64 r.way, .int .i64 r.pal.w, .int .i64 r.pal.d, .int .i64 r.pal.h, .int .i64 r.pal.gram, .int .i64 r.cls, .slice A1 n1 c1, .slice A2 n2 c2, .int .i64 r.master, .slice A3 n3 c3]) 37)).alloc (by simp; omega) (.cells #[.int .i64 t.id, .int .i64 t.w, .int .i64 t.h, .int .i64 t.d, .int .i64 t.tare, .int .i64 t.gram, .int .i64 t.cost] 48))
  have HR2 := hide ((HR1.out.alloc (Nat.le_refl _) (.cells (#[.int .i64 r.way, .int .i64 r.pal.w, .int .i64 r.pal.d, .int .i64 r.pal.h, .int .i64 r.pal.gram, .int .i64 r.cls, .slice A1 n1 c1, .slice A2 n2 c2, .int .i64 r.master, .slice A3 n3 c3]) 37)).alloc (by simp) (.cells #[.int .i64 t.id, .int .i64 t.w, .int .i64 t.h, .int .i64 t.d, .int .i64 t.tare, .int .i64 t.gram, .int .i64 t.cost] 48))
  have HU2 := hide ((HU1.out.alloc (Nat.le_refl _) (.cells (#[.int .i64 r.way, .int .i64 r.pal.w, .int .i64 r.pal.d, .int .i64 r.pal.h, .int .i64 r.pal.gram, .int .i64 r.cls, .slice A1 n1 c1, .slice A2 n2 c2, .int .i64 r.master, .slice A3 n3 c3]) 37)).alloc (by simp) (.cells #[.int .i64 t.id, .int .i64 t.w, .int .i64 t.h, .int .i64 t.d, .int .i64 t.tare, .int .i64 t.gram, .int .i64 t.cost] 48))
  have kP := P2.out.cell
  have yP := P2.out.lt
  have kZ := Z2.out.cell
  have fZ := Z2.out.frozen
  unfold rqZero at kZ
  have yZ := Z2.out.lt
  go_wp2_with fail
  have hz10 := Z2.out
  unfold rqZero at hz10
  obtain ⟨hB10, hg10⟩ := st10 hz10 (.int .i64 r.way) (.int .i64 r.pal.w) (.int .i64 r.pal.d) (.int .i64 r.pal.h) (.int .i64 r.pal.gram) (.int .i64 r.cls) (.slice A1 n1 c1) (.slice A2 n2 c2) (.int .i64 r.master) (.slice A3 n3 c3)
  refine ret_cell2 Tryz.results16 rfl hB10 Tryz.underlying37 rfl (by kernel_rfl) rfl ?_
  exact ⟨⟨r, A1, n1, c1, A2, n2, c2, A3, n3, c3, us, _, _, _, rfl, ⟨slk_fin (HR2.out.pr.more (by (try simp) <;> omega) (by (try simp) <;> omega)) hg10, slk_fin (HR2.out.ty.more (by (try simp) <;> omega) (by (try simp) <;> omega)) hg10, slk_fin (HR2.out.it.more (by (try simp) <;> omega) (by (try simp) <;> omega)) hg10⟩, slk_fin (HU2.out.more (by (try simp) <;> omega) (by (try simp) <;> omega)) hg10, hn1, hn2, hn3, hn4⟩, L2.out.grown hg10 (by (try simp) <;> omega) (fun x hx => by have hx2 : w.heap.size = x := Option.some.inj hx; omega)⟩
end Go.Proofs.YtehgdhekiogppaaGreat
