/- An order of which nothing is wrong, as it is drawn; either kind of order. Written by gen/gen_dg.py. -/
import Derived.Test.YtehgdhekiogppaaGreatDw
import Derived.Test.YtehgdhekiogppaaGreatCls
namespace Go.Proofs.YtehgdhekiogppaaGreat
open Go.ChangeShapes Go.WideShapes Go.ChangeAt Go.RowKit Go.Deep
set_option linter.unusedVariables false
set_option linter.unusedSimpArgs false

theorem RqAt.box {w : World} {lo b : Nat} {r : Rq} {A1 A2 A3 : Option Addr} {n1 n2 n3 c1 c2 c3 : Nat} (h : RqAt w lo b r A1 n1 c1 A2 n2 c2 A3 n3 c3) (hb : b ≤ w.heap.size) (i : Nat) (v : Value) : RqAt (w.setCell ⟨b, i, none⟩ v) lo b r A1 n1 c1 A2 n2 c2 A3 n3 c3 :=
  h.grown (grown_set w b i v) hb (fun z hz => .inr (by have hz2 : b = z := Option.some.inj hz; omega))
theorem RqAt.box4 {w : World} {lo b : Nat} {r : Rq} {A1 A2 A3 : Option Addr} {n1 n2 n3 c1 c2 c3 : Nat} (h : RqAt w lo b r A1 n1 c1 A2 n2 c2 A3 n3 c3) (hb : b ≤ w.heap.size) (i j k l : Nat) (v1 v2 v3 v4 : Value) : RqAt ((((w.setCell ⟨b, i, none⟩ v1).setCell ⟨b, j, none⟩ v2).setCell ⟨b, k, none⟩ v3).setCell ⟨b, l, none⟩ v4) lo b r A1 n1 c1 A2 n2 c2 A3 n3 c3 :=
  (((h.box hb i v1).box (by simpa using hb) j v2).box (by simpa using hb) k v3).box (by simpa using hb) l v4
set_option maxRecDepth 20000 in
set_option maxHeartbeats 4000000 in
theorem l5Good_any (g : Nat) (A : Option Addr) (n c : Nat) (bs : List Int) (w : World) (hc : CurAt 132 w g A n c bs) :
    Calls Tryz.prog 97 #[.pointer (some ⟨g, 0, none⟩)] w fun e w' => (∃ (r : Rq) (A1 : Option Addr) (n1 c1 : Nat) (A2 : Option Addr) (n2 c2 : Nat) (A3 : Option Addr) (n3 c3 : Nat), e = .returned (.agg #[.int .i64 r.way, .int .i64 r.pal.w, .int .i64 r.pal.d, .int .i64 r.pal.h, .int .i64 r.pal.gram, .int .i64 r.cls, .slice A1 n1 c1, .slice A2 n2 c2, .int .i64 r.master, .slice A3 n3 c3]) ∧ RqAt w' w.heap.size w'.heap.size r A1 n1 c1 A2 n2 c2 A3 n3 c3 ∧ n1 ≤ 33 ∧ n2 ≤ 6 ∧ n3 ≤ 6) ∧ CurAt 132 w' g A n c bs ∧ w.grownBy w' (some g) := by
  have hgl := hc.lt
  go_enter Tryz.func97, Tryz.ntmps97
  go_wp2_with fail
  refine (l2Right_any g A n c bs _ (hc.alloc _)).mono ?_
  rintro e w1 ⟨⟨r, A1, n1, c1, A2, n2, c2, A3, n3, c3, rfl, hr, hn1, hn2, hn2b, hn3⟩, hc1, hg1⟩
  have z1 : w.heap.size + 1 ≤ w1.heap.size := by simpa using hg1.size
  have M0 := hide (show Mk 132 37 rqZero w (w1.alloc (Obj.cells (#[.int .i64 r.way, .int .i64 r.pal.w, .int .i64 r.pal.d, .int .i64 r.pal.h, .int .i64 r.pal.gram, .int .i64 r.cls, .slice A1 n1 c1, .slice A2 n2 c2, .int .i64 r.master, .slice A3 n3 c3]) 37)) g A n c bs w1.heap.size (rqCells r.way r.pal.w r.pal.d r.pal.h r.pal.gram r.cls (.slice A1 n1 c1) (.slice A2 n2 c2) r.master (.slice A3 n3 c3)) from
    ⟨hc1.alloc _, grown_trans (grown_trans (grown_alloc _ _ _) hg1) (grown_alloc _ _ _), Blk.new _ _ _ rfl, (Blk.grown (Blk.new w 37 rqZero rfl) hg1 (fun e => by injection e with e; omega)).alloc _, hgl, by omega⟩)
  have hr1 := hr.pr
  simp only [World.size_alloc] at hr1
  have hr2 := hr.ty
  simp only [World.size_alloc] at hr2
  have hr3 := hr.it
  simp only [World.size_alloc] at hr3
  have HR0 := hide (show RqAt (w1.alloc (Obj.cells (#[.int .i64 r.way, .int .i64 r.pal.w, .int .i64 r.pal.d, .int .i64 r.pal.h, .int .i64 r.pal.gram, .int .i64 r.cls, .slice A1 n1 c1, .slice A2 n2 c2, .int .i64 r.master, .slice A3 n3 c3]) 37)) (w.heap.size + 1) w1.heap.size r A1 n1 c1 A2 n2 c2 A3 n3 c3 from
    ⟨(slk_of_own encPr_len hr1 hr.l1).alloc (Nat.le_refl _) _, (slk_of_own encTy_len hr2 hr.l2).alloc (Nat.le_refl _) _, (slk_of_own encIt_len hr3 hr.l3).alloc (Nat.le_refl _) _⟩)
  have HCL := hide (fun W h h' => sclass_any r A1 A2 A3 n1 n2 n3 c1 c2 c3 (w.heap.size + 1) w1.heap.size W h h')
  have HMS := hide (fun W h h' => smaster_any ⟨r.way, ⟨30, 25, 24, 400⟩, r.cls, r.pairs, r.types, r.master, r.items⟩ A1 A2 A3 n1 n2 n3 c1 c2 c3 (w.heap.size + 1) w1.heap.size W h h')
  obtain ⟨cn, hcn⟩ : ∃ x, classN r = x := ⟨_, rfl⟩
  rw [hcn] at HCL
  obtain ⟨T, hT⟩ : ∃ T, tyD (findTy r.types r.master) = T := ⟨_, rfl⟩
  obtain ⟨tb, htb⟩ : ∃ tb, (findTy r.types r.master).isSome = tb := ⟨_, rfl⟩
  simp only [hT, htb] at HMS
  have kB0 := M0.out.box.cell
  unfold rqCells at kB0
  have yB0 := M0.out.lt
  clear hr hr1 hr2 hr3 hc1 hg1 hc hcn hT htb
  go_wp2_with fail
  refine (HCL.out _ HR0.out (by simp)).mono ?_
  rintro e w2 ⟨rfl, hb2⟩
  have z2 : w1.heap.size + 1 ≤ w2.heap.size := by simpa using hb2.size
  have M2 := hide (M0.out.below hb2)
  have HR2 := hide (HR0.out.below hb2 (by simp))
  clear hb2 M0 HR0 HCL kB0 yB0
  generalize w1.heap.size = b at *
  by_cases h0 : cn = 0
  · subst h0
    have kB := M2.out.box.cell
    have fB := M2.out.box.frozen
    unfold rqCells at kB
    have yB := M2.out.lt
    have kZ := M2.out.res.cell
    have fZ := M2.out.res.frozen
    unfold rqZero at kZ
    have yZ := M2.out.res.lt
    have yH := M2.out.hi
    go_wp2_with fail
    have hz10 := M2.out.res
    unfold rqZero at hz10
    obtain ⟨hB10, hg10⟩ := st10 hz10 (.int .i64 r.way) (.int .i64 r.pal.w) (.int .i64 r.pal.d) (.int .i64 r.pal.h) (.int .i64 r.pal.gram) (.int .i64 r.cls) (.slice A1 n1 c1) (.slice A2 n2 c2) (.int .i64 r.master) (.slice A3 n3 c3)
    refine ret_cell Tryz.results97 rfl hB10 Tryz.underlying37 rfl (by kernel_rfl) rfl ?_
    exact ⟨⟨⟨r.way, ⟨r.pal.w, r.pal.d, r.pal.h, r.pal.gram⟩, r.cls, r.pairs, r.types, r.master, r.items⟩, _, _, _, _, _, _, _, _, _, rfl, ⟨slk_fin ((HR2.out.pr.more (Nat.le_refl _) (by (try simp) <;> omega))) hg10, slk_fin ((HR2.out.ty.more (Nat.le_refl _) (by (try simp) <;> omega))) hg10, slk_fin ((HR2.out.it.more (Nat.le_refl _) (by (try simp) <;> omega))) hg10⟩, (by omega), (by omega), (by omega)⟩, M2.out.cur.grown hg10 (fun x hx => by have hx2 : w.heap.size = x := Option.some.inj hx; omega), grown_far M2.out.gr hg10 (fun x hx => by have hx2 : w.heap.size = x := Option.some.inj hx; omega)⟩
  · have h0b : ((cn : Int) != 0) = true := by rw [bne_iff_ne]; exact h0
    have kB := M2.out.box.cell
    have fB := M2.out.box.frozen
    unfold rqCells at kB
    have yB := M2.out.lt
    have kZ := M2.out.res.cell
    have fZ := M2.out.res.frozen
    unfold rqZero at kZ
    have yZ := M2.out.res.lt
    have yH := M2.out.hi
    have M3 := hide (show Mk 132 37 rqZero w ((((w2.setCell ⟨b, 1, none⟩ (.int .i64 30)).setCell ⟨b, 2, none⟩ (.int .i64 25)).setCell ⟨b, 3, none⟩ (.int .i64 24)).setCell ⟨b, 4, none⟩ (.int .i64 400)) g A n c bs b (rqCells r.way 30 25 24 400 r.cls (.slice A1 n1 c1) (.slice A2 n2 c2) r.master (.slice A3 n3 c3)) from ((((M2.out.set 1 (.int .i64 30)).set 2 (.int .i64 25)).set 3 (.int .i64 24)).set 4 (.int .i64 400)))
    have HR3 := hide (show RqAt ((((w2.setCell ⟨b, 1, none⟩ (.int .i64 30)).setCell ⟨b, 2, none⟩ (.int .i64 25)).setCell ⟨b, 3, none⟩ (.int .i64 24)).setCell ⟨b, 4, none⟩ (.int .i64 400)) (w.heap.size + 1) b r A1 n1 c1 A2 n2 c2 A3 n3 c3 from RqAt.box4 HR2.out (by omega) 1 2 3 4 (.int .i64 30) (.int .i64 25) (.int .i64 24) (.int .i64 400))
    have HMC := hide (HMS.out ((((w2.setCell ⟨b, 1, none⟩ (.int .i64 30)).setCell ⟨b, 2, none⟩ (.int .i64 25)).setCell ⟨b, 3, none⟩ (.int .i64 24)).setCell ⟨b, 4, none⟩ (.int .i64 400)) ⟨HR3.out.pr, HR3.out.ty, HR3.out.it⟩ (by simp; omega))
    go_wp2_with fail
    refine HMC.out.mono ?_
    rintro e w4 ⟨rfl, hb4⟩
    have z4 : w2.heap.size ≤ w4.heap.size := by simpa using hb4.size
    have M4 := hide (M3.out.below hb4)
    have HR4 := hide (HR3.out.below hb4 (by simp; omega))
    clear hb4 M2 M3 HR2 HR3 HMS HMC kB fB yB kZ fZ yZ yH
    have kB := M4.out.box.cell
    have fB := M4.out.box.frozen
    unfold rqCells at kB
    have yB := M4.out.lt
    have kZ := M4.out.res.cell
    have fZ := M4.out.res.frozen
    unfold rqZero at kZ
    have yZ := M4.out.res.lt
    have yH := M4.out.hi
    obtain ⟨s, hs⟩ : ∃ s, w4.heap.size = s := ⟨_, rfl⟩
    have hbs : b < s := by omega
    have BT := hide ((Blk.new w4 48 (#[.int .i64 T.id, .int .i64 T.w, .int .i64 T.h, .int .i64 T.d, .int .i64 T.tare, .int .i64 T.gram, .int .i64 T.cost]) rfl).alloc (.cells #[] 63))
    have MT := hide ((M4.out.alloc (.cells (#[.int .i64 T.id, .int .i64 T.w, .int .i64 T.h, .int .i64 T.d, .int .i64 T.tare, .int .i64 T.gram, .int .i64 T.cost]) 48)).alloc (.cells #[] 63))
    have HRT := hide ((HR4.out.alloc (by omega) (.cells (#[.int .i64 T.id, .int .i64 T.w, .int .i64 T.h, .int .i64 T.d, .int .i64 T.tare, .int .i64 T.gram, .int .i64 T.cost]) 48)).alloc (by simp; omega) (.cells #[] 63))
    have HOT := hide (own_litK (α := It) (k := 7) (enc := encIt) (w4.alloc (.cells (#[.int .i64 T.id, .int .i64 T.w, .int .i64 T.h, .int .i64 T.d, .int .i64 T.tare, .int .i64 T.gram, .int .i64 T.cost]) 48)) 63 (s + 1) (by simp; omega) (g := w4.heap.size + 1) (by simp))
    have hc3 := HR4.out.it.cap
    have hm3 := HR4.out.it.max
    have HL3 := hide HR4.out.it.len
    go_wp2_with fail
    clear kB fB yB kZ fZ yZ M4 HR4
    go_loopw [6, 7] (fun o i wr => ∃ (k : Nat) (its : List It), k ≤ n3 ∧ i = .int .i64 k ∧ its.length ≤ k ∧ Own 7 encIt 63 wr (s + 1) o its ∧ Blk wr s 48 #[.int .i64 T.id, .int .i64 T.w, .int .i64 T.h, .int .i64 T.d, .int .i64 T.tare, .int .i64 T.gram, .int .i64 T.cost] ∧ Mk 132 37 rqZero w wr g A n c bs b (rqCells r.way 30 25 24 400 r.cls (.slice A1 n1 c1) (.slice A2 n2 c2) r.master (.slice A3 n3 c3)) ∧ RqAt wr (w.heap.size + 1) b r A1 n1 c1 A2 n2 c2 A3 n3 c3 ∧ s + 1 ≤ wr.heap.size) (fun _ i _ => n3 - (intOf i).toNat)
    case atStart => exact ⟨0, [], Nat.zero_le _, rfl, Nat.le_refl _, (by have h := HOT.out; rw [hs] at h; exact h), (by rw [← hs]; exact BT.out), MT.out, HRT.out, by simp; omega⟩
    case round =>
      clear BT MT HRT HOT
      obtain ⟨k, its, hk, rfl, hil, ho, hbt, hm, hrq, zs⟩ := hrel
      have HO5 := hide ho
      have B5 := hide hbt
      have M5 := hide hm
      have HR5 := hide hrq
      clear ho hbt hm hrq
      have kB := M5.out.box.cell
      have fB := M5.out.box.frozen
      unfold rqCells at kB
      have yB := M5.out.lt
      have kT := B5.out.cell
      by_cases hlt : k < n3
      · obtain ⟨bi, oi, x, hx, rfl, _, hbi, d0, d1, d2, d3, d4, d5, d6, _⟩ := HR5.out.it.it hlt
        have HX := hide hx
        have i0 : (0 : Int) ≤ (k : Int) := by omega
        have i1 : (k : Int) < (n3 : Int) := by omega
        have q1 : bi < wr.heap.size := by omega
        have q2 : s < wr.heap.size := by omega
        obtain ⟨tf, htf⟩ : ∃ tf, fitsB x T = tf := ⟨_, rfl⟩
        have HFT := hide (sfits_any x T)
        rw [htf] at HFT
        clear hx htf
        go_wp2_with fail
        refine wp_region_held_drew (S := (fun w' => w'.cell? ⟨b, 9, none⟩ = some (.slice (some ⟨bi, oi, none⟩) n3 c3) ∧ w'.cell? ⟨bi, oi + k * 7, none⟩ = some (.int .i64 x.id) ∧ w'.cell? ⟨bi, oi + k * 7 + 1, none⟩ = some (.int .i64 x.w) ∧ w'.cell? ⟨bi, oi + k * 7 + 2, none⟩ = some (.int .i64 x.h) ∧ w'.cell? ⟨bi, oi + k * 7 + 3, none⟩ = some (.int .i64 x.d) ∧ w'.cell? ⟨bi, oi + k * 7 + 4, none⟩ = some (.int .i64 x.gram) ∧ w'.cell? ⟨bi, oi + k * 7 + 5, none⟩ = some (.int .i64 x.cls) ∧ w'.cell? ⟨bi, oi + k * 7 + 6, none⟩ = some (.int .i64 x.cnt) ∧ w'.cell? ⟨s, 0, none⟩ = some (.int .i64 T.id) ∧ w'.cell? ⟨s, 1, none⟩ = some (.int .i64 T.w) ∧ w'.cell? ⟨s, 2, none⟩ = some (.int .i64 T.h) ∧ w'.cell? ⟨s, 3, none⟩ = some (.int .i64 T.d) ∧ w'.cell? ⟨s, 4, none⟩ = some (.int .i64 T.tare) ∧ w'.cell? ⟨s, 5, none⟩ = some (.int .i64 T.gram) ∧ w'.cell? ⟨s, 6, none⟩ = some (.int .i64 T.cost))) (by kernel_rfl) ?hS0 (fun hHeld => ?_)
        case hS0 => (go_keep)
        refine wpAnyH_take (i := 0) (v := ?_) rfl (by kernel_rfl) (by kernel_rfl) (by kernel_rfl) (fun _ _ _ h => h) (Or.inl ⟨by rfl, ?_⟩) (by assumption) ?_
        rotate_left 1
        · intro w hSw
          try dsimp only at hSw
          go_simp
          try with_reducible rfl
        simp only [Act.put, List.getElem_toArray, List.getElem_cons_succ, List.getElem_cons_zero, List.setIfInBounds_toArray, List.set_cons_zero, List.set_cons_succ]
        refine wpAnyH_take (i := 1) (v := ?_) rfl (by kernel_rfl) (by kernel_rfl) (by kernel_rfl) (fun _ _ _ h => h) (Or.inl ⟨by rfl, ?_⟩) (by assumption) ?_
        rotate_left 1
        · intro w hSw
          try dsimp only at hSw
          go_simp
          try with_reducible rfl
        simp only [Act.put, List.getElem_toArray, List.getElem_cons_succ, List.getElem_cons_zero, List.setIfInBounds_toArray, List.set_cons_zero, List.set_cons_succ]
        refine wpAnyH_take (i := 2) (v := ?_) rfl (by kernel_rfl) (by kernel_rfl) (by kernel_rfl) (fun _ _ _ h => h) (Or.inl ⟨by rfl, ?_⟩) (by assumption) ?_
        rotate_left 1
        · intro w hSw
          try dsimp only at hSw
          go_simp
          try with_reducible rfl
        simp only [Act.put, List.getElem_toArray, List.getElem_cons_succ, List.getElem_cons_zero, List.setIfInBounds_toArray, List.set_cons_zero, List.set_cons_succ]
        refine wpAnyH_take (i := 3) (v := ?_) rfl (by kernel_rfl) (by kernel_rfl) (by kernel_rfl) (fun _ _ _ h => h) (Or.inl ⟨by rfl, ?_⟩) (by assumption) ?_
        rotate_left 1
        · intro w hSw
          try dsimp only at hSw
          go_simp
          try with_reducible rfl
        simp only [Act.put, List.getElem_toArray, List.getElem_cons_succ, List.getElem_cons_zero, List.setIfInBounds_toArray, List.set_cons_zero, List.set_cons_succ]
        refine wpAnyH_take (i := 4) (v := ?_) rfl (by kernel_rfl) (by kernel_rfl) (by kernel_rfl) (fun _ _ _ h => h) (Or.inl ⟨by rfl, ?_⟩) (by assumption) ?_
        rotate_left 1
        · intro w hSw
          try dsimp only at hSw
          go_simp
          try with_reducible rfl
        simp only [Act.put, List.getElem_toArray, List.getElem_cons_succ, List.getElem_cons_zero, List.setIfInBounds_toArray, List.set_cons_zero, List.set_cons_succ]
        refine wpAnyH_take (i := 5) (v := ?_) rfl (by kernel_rfl) (by kernel_rfl) (by kernel_rfl) (fun _ _ _ h => h) (Or.inl ⟨by rfl, ?_⟩) (by assumption) ?_
        rotate_left 1
        · intro w hSw
          try dsimp only at hSw
          go_simp
          try with_reducible rfl
        simp only [Act.put, List.getElem_toArray, List.getElem_cons_succ, List.getElem_cons_zero, List.setIfInBounds_toArray, List.set_cons_zero, List.set_cons_succ]
        refine wpAnyH_ready (rs := [6]) (by kernel_rfl) (by simp) ?_
        refine AllReadyH.cons rfl (fun K hK => ?_) AllReadyH.nil
        go_simp
        refine (HFT.out _).mono ?_
        rintro e w6 ⟨rfl, hb6⟩
        have z6 : wr.heap.size ≤ w6.heap.size := by simpa using hb6.size
        have M6 := hide (M5.out.drew.below hb6)
        have HR6 := hide (HR5.out.drew.below hb6 (by (try simp) <;> omega))
        have B6 := hide (Blk.belowH B5.out.drew hb6)
        have HO6 := hide (HO5.out.drew.below hb6)
        obtain ⟨bi2, oi2, x2, hx2, e1, _, hbi2, j0, j1, j2, j3, j4, j5, j6, _⟩ := HR6.out.it.it hlt
        injection e1 with e1
        injection e1 with e1 e3
        subst e1 e3
        obtain rfl : x2 = x := by have := HX.out; rw [hx2] at this; exact Option.some.inj this
        have k6 := B6.out.cell
        clear hb6 hx2 kB fB yB kT
        have kB := M6.out.box.cell
        have fB := M6.out.box.frozen
        unfold rqCells at kB
        have yB := M6.out.lt
        go_wp2_with fail
        refine hK.out _ _ ?hS1 (fun hHeld => ?_)
        case hS1 => (try dsimp only); (first | (with_reducible assumption) | go_keep)
        clear hK K
        try simp only [Act.put, List.getElem_toArray, List.getElem_cons_succ, List.getElem_cons_zero, List.setIfInBounds_toArray, List.set_cons_zero, List.set_cons_succ]
        refine wpAnyH_done (by kernel_rfl) ?_ _
        clear k6
        cases tf
        · go_wp2_with fail
          go_roundw
          case rel => exact ⟨k + 1, its, by omega, by go_num, by omega, HO6.out, B6.out, M6.out, HR6.out, by omega⟩
          case measure => first | omega | (simp [intOf]; done) | (simp [intOf]; omega)
        · have hnl : its.length ≤ 4194304 := by omega
          have q3 : bi < w6.heap.size := by omega
          go_wp2_with (at_builtin; refine wpList_app rfl _ _ rfl rfl rfl (appItS (HO6.out.alloc _) (by simp; omega) hnl (slk_newg encIt_len _ [(⟨x2.id, x2.w, x2.h, x2.d, x2.gram, x2.cls, x2.cnt⟩ : It)] 1 _ _ (by simp) rfl (by simp [maxLen]) rfl) (by omega)) ?_; intro v7 w7 ho7 hg7 hat7; have HO7 := hide ho7; have hbl : ∀ z, Value.ownBlock _ = some z → s + 1 ≤ z := (fun z hz => (HO6.out.lt z hz).1); have M7 := hide ((M6.out.alloc _).app hg7 (fun z hz => by have := hbl z hz; omega)); have B7 := hide ((B6.out.alloc _).grown hg7 (fun e => by have := hbl _ e.symm; omega)); have HR7 := hide ((HR6.out.alloc (by omega) _).grown hg7 (by simp; omega) (fun z hz => .inr (by have := hbl z hz; omega))); have z7 := hg7.size; simp only [World.size_alloc] at z7; clear ho7 hg7 hat7)
          go_roundw
          case rel => exact ⟨k + 1, its ++ [⟨x2.id, x2.w, x2.h, x2.d, x2.gram, x2.cls, x2.cnt⟩], by omega, by go_num, by simp; omega, HO7.out, B7.out, M7.out, HR7.out, by omega⟩
          case measure => first | omega | (simp [intOf]; done) | (simp [intOf]; omega)
      · have hge : n3 ≤ k := by omega
        clear hlt
        obtain ⟨mi, hmi⟩ : ∃ mi, its.length = mi := ⟨_, rfl⟩
        obtain ⟨Ai, ci, rfl, si⟩ := Own.slk' encIt_len hmi HO5.out
        clear si
        have kZ := M5.out.res.cell
        have fZ := M5.out.res.frozen
        unfold rqZero at kZ
        have yZ := M5.out.res.lt
        have yH := M5.out.hi
        go_wp2_with fail
        have MF := hide (show Mk 132 37 rqZero w (wr.setCell ⟨b, 9, none⟩ (.slice Ai mi ci)) g A n c bs b (rqCells r.way 30 25 24 400 r.cls (.slice A1 n1 c1) (.slice A2 n2 c2) r.master (.slice Ai mi ci)) from M5.out.set 9 (.slice Ai mi ci))
        have HRF := hide (RqAt.box HR5.out (by omega) 9 (.slice Ai mi ci))
        have SIF := hide (SlK.more (lo' := w.heap.size + 1) (slk_of_own encIt_len (own_ne HO5.out (grown_set wr b 9 (.slice Ai mi ci)) (fun z hz e => by have hz2 : b = z := Option.some.inj hz; subst hz2; have := (HO5.out.lt _ e).1; omega)) hmi) (by omega) (Nat.le_refl _))
        have hz10 := MF.out.res
        unfold rqZero at hz10
        obtain ⟨hB10, hg10⟩ := st10 hz10 (.int .i64 r.way) (.int .i64 30) (.int .i64 25) (.int .i64 24) (.int .i64 400) (.int .i64 r.cls) (.slice A1 n1 c1) (.slice A2 n2 c2) (.int .i64 r.master) (.slice Ai mi ci)
        refine ret_cell Tryz.results97 rfl hB10 Tryz.underlying37 rfl (by kernel_rfl) rfl ?_
        exact ⟨⟨⟨r.way, ⟨30, 25, 24, 400⟩, r.cls, r.pairs, r.types, r.master, its⟩, _, _, _, _, _, _, _, _, _, rfl, ⟨slk_fin ((HRF.out.pr.more (Nat.le_refl _) (by simp; omega))) hg10, slk_fin ((HRF.out.ty.more (Nat.le_refl _) (by simp; omega))) hg10, slk_fin (SIF.out) hg10⟩, (by omega), (by omega), (by omega)⟩, MF.out.cur.grown hg10 (fun x hx => by have hx2 : w.heap.size = x := Option.some.inj hx; omega), grown_far MF.out.gr hg10 (fun x hx => by have hx2 : w.heap.size = x := Option.some.inj hx; omega)⟩
set_option maxRecDepth 20000 in
set_option maxHeartbeats 2000000 in
theorem drawClass_any (A : Option Addr) (n c : Nat) (bs : List Int) (w : World) (hs : SlK 1 encByte w 0 w.heap.size A n c bs) (hb : ∀ b ∈ bs, 0 ≤ b ∧ b ≤ 255) :
    Calls Tryz.prog 63 #[.slice A n c] w fun e w' => (∃ (r : Rq) (A1 : Option Addr) (n1 c1 : Nat) (A2 : Option Addr) (n2 c2 : Nat) (A3 : Option Addr) (n3 c3 : Nat), e = .returned (.agg #[.int .i64 r.way, .int .i64 r.pal.w, .int .i64 r.pal.d, .int .i64 r.pal.h, .int .i64 r.pal.gram, .int .i64 r.cls, .slice A1 n1 c1, .slice A2 n2 c2, .int .i64 r.master, .slice A3 n3 c3]) ∧ RqAt w' w.heap.size w'.heap.size r A1 n1 c1 A2 n2 c2 A3 n3 c3 ∧ n1 ≤ 33 ∧ n2 ≤ 6 ∧ n3 ≤ 6) ∧ Below w.heap.size w w' := by
  have hs2 := (hs.alloc (Nat.le_refl _) (.cells rqZero 37)).more (Nat.le_refl 0) (show w.heap.size ≤ (w.alloc (.cells rqZero 37)).heap.size by simp)
  go_enter Tryz.func63, Tryz.ntmps63
  go_wp2_with fail
  refine (l1New_any A n c bs _ hs2 hb).mono ?_
  rintro e w1 ⟨rfl, hc1, hb1⟩
  have hgl := hc1.lt
  have Z1 := hide (Blk.belowH (Blk.new w 37 rqZero rfl) hb1)
  have L1 := hide (show Below w.heap.size w w1 from (by repeat (first | with_reducible exact Below.refl _ _ | with_reducible assumption | with_reducible refine Below.setCell ?_ (by (try simp) <;> omega) _ | with_reducible refine Below.alloc ?_ (by (try simp) <;> omega) _ | with_reducible refine Below.drew ?_ | with_reducible refine below_drewN ?_ _ | with_reducible exact hb1 | with_reducible refine Below.trans ?_ (Below.mono hb1 (by (try simp) <;> omega)))))
  simp only [World.size_alloc] at hc1 hgl
  clear hb1 hs hs2
  go_wp2_with fail
  refine (l1Once_any 2 (by omega) (by omega) _ A n c bs _ hc1).mono ?_
  rintro e w1 ⟨⟨tt, rfl⟩, hc1, hg1⟩
  have Z1 := hide (Z1.out.grown hg1 (fun e => by have e2 : w.heap.size = w.heap.size + 1 := Option.some.inj e; omega))
  have L1 := hide (L1.out.grown hg1 (by omega) (fun x hx => by have hx2 : w.heap.size + 1 = x := Option.some.inj hx; omega))
  have zo := hg1.size
  clear hg1
  cases tt
  · go_wp2_with fail
    refine (l2Draw_any _ A n c bs _ hc1).mono ?_
    rintro e w2 ⟨⟨r, A1, n1, c1, A2, n2, c2, A3, n3, c3, rfl, hr, hn1, hn2, hn3⟩, hc2, hg2⟩
    have z2 := hg2.size
    have Z2 := hide (Z1.out.grown hg2 (fun e => by have e2 : w.heap.size = w.heap.size + 1 := Option.some.inj e; omega))
    have HR := hide hr
    have L2 := hide (L1.out.grown hg2 (by omega) (fun x hx => by have hx2 : w.heap.size + 1 = x := Option.some.inj hx; omega))
    have kZ := Z2.out.cell
    have fZ := Z2.out.frozen
    unfold rqZero at kZ
    have yZ := Z2.out.lt
    clear hr hc1 hc2 hg2
    go_wp2_with fail
    have hz10 := Z2.out
    unfold rqZero at hz10
    obtain ⟨hB10, hg10⟩ := st10 hz10 (.int .i64 r.way) (.int .i64 r.pal.w) (.int .i64 r.pal.d) (.int .i64 r.pal.h) (.int .i64 r.pal.gram) (.int .i64 r.cls) (.slice A1 n1 c1) (.slice A2 n2 c2) (.int .i64 r.master) (.slice A3 n3 c3)
    refine ret_cell Tryz.results63 rfl hB10 Tryz.underlying37 rfl (by kernel_rfl) rfl ?_
    exact ⟨⟨r, A1, n1, c1, A2, n2, c2, A3, n3, c3, rfl, ⟨slk_fin (HR.out.pr.more (by omega) (Nat.le_refl _)) hg10, slk_fin (HR.out.ty.more (by omega) (Nat.le_refl _)) hg10, slk_fin (HR.out.it.more (by omega) (Nat.le_refl _)) hg10⟩, hn1, hn2, hn3⟩, L2.out.grown hg10 (by omega) (fun x hx => by have hx2 : w.heap.size = x := Option.some.inj hx; omega)⟩
  · go_wp2_with fail
    refine (l5Good_any _ A n c bs _ hc1).mono ?_
    rintro e w2 ⟨⟨r, A1, n1, c1, A2, n2, c2, A3, n3, c3, rfl, hr, hn1, hn2, hn3⟩, hc2, hg2⟩
    have z2 := hg2.size
    have Z2 := hide (Z1.out.grown hg2 (fun e => by have e2 : w.heap.size = w.heap.size + 1 := Option.some.inj e; omega))
    have HR := hide hr
    have L2 := hide (L1.out.grown hg2 (by omega) (fun x hx => by have hx2 : w.heap.size + 1 = x := Option.some.inj hx; omega))
    have kZ := Z2.out.cell
    have fZ := Z2.out.frozen
    unfold rqZero at kZ
    have yZ := Z2.out.lt
    clear hr hc1 hc2 hg2
    go_wp2_with fail
    have hz10 := Z2.out
    unfold rqZero at hz10
    obtain ⟨hB10, hg10⟩ := st10 hz10 (.int .i64 r.way) (.int .i64 r.pal.w) (.int .i64 r.pal.d) (.int .i64 r.pal.h) (.int .i64 r.pal.gram) (.int .i64 r.cls) (.slice A1 n1 c1) (.slice A2 n2 c2) (.int .i64 r.master) (.slice A3 n3 c3)
    refine ret_cell Tryz.results63 rfl hB10 Tryz.underlying37 rfl (by kernel_rfl) rfl ?_
    exact ⟨⟨r, A1, n1, c1, A2, n2, c2, A3, n3, c3, rfl, ⟨slk_fin (HR.out.pr.more (by omega) (Nat.le_refl _)) hg10, slk_fin (HR.out.ty.more (by omega) (Nat.le_refl _)) hg10, slk_fin (HR.out.it.more (by omega) (Nat.le_refl _)) hg10⟩, hn1, hn2, hn3⟩, L2.out.grown hg10 (by omega) (fun x hx => by have hx2 : w.heap.size = x := Option.some.inj hx; omega)⟩
set_option maxRecDepth 20000 in
set_option maxHeartbeats 2000000 in
theorem drawUnits_any (A : Option Addr) (n c : Nat) (bs : List Int) (w : World) (hs : SlK 1 encByte w 0 w.heap.size A n c bs) (hb : ∀ b ∈ bs, 0 ≤ b ∧ b ≤ 255) :
    Calls Tryz.prog 21 #[.slice A n c] w fun e w' => (∃ (r : Rq) (A1 : Option Addr) (n1 c1 : Nat) (A2 : Option Addr) (n2 c2 : Nat) (A3 : Option Addr) (n3 c3 : Nat), e = .returned (.agg #[.int .i64 r.way, .int .i64 r.pal.w, .int .i64 r.pal.d, .int .i64 r.pal.h, .int .i64 r.pal.gram, .int .i64 r.cls, .slice A1 n1 c1, .slice A2 n2 c2, .int .i64 r.master, .slice A3 n3 c3]) ∧ RqAt w' w.heap.size w'.heap.size r A1 n1 c1 A2 n2 c2 A3 n3 c3 ∧ n1 ≤ 33 ∧ n2 ≤ 6 ∧ n3 ≤ 6) ∧ Below w.heap.size w w' := by
  have hs2 := (hs.alloc (Nat.le_refl _) (.cells rqZero 37)).more (Nat.le_refl 0) (show w.heap.size ≤ (w.alloc (.cells rqZero 37)).heap.size by simp)
  go_enter Tryz.func21, Tryz.ntmps21
  go_wp2_with fail
  refine (drawClass_any A n c bs _ hs2 hb).mono ?_
  rintro e w2 ⟨⟨r, A1, n1, c1, A2, n2, c2, A3, n3, c3, rfl, hr, hn1, hn2, hn3⟩, hb2⟩
  have Z2 := hide (Blk.belowH (Blk.new w 37 rqZero rfl) hb2)
  have L2 := hide (show Below w.heap.size w w2 from (by repeat (first | with_reducible exact Below.refl _ _ | with_reducible assumption | with_reducible refine Below.setCell ?_ (by (try simp) <;> omega) _ | with_reducible refine Below.alloc ?_ (by (try simp) <;> omega) _ | with_reducible refine Below.drew ?_ | with_reducible refine below_drewN ?_ _ | with_reducible exact hb2 | with_reducible refine Below.trans ?_ (Below.mono hb2 (by (try simp) <;> omega)))))
  have z2 : w.heap.size + 1 ≤ w2.heap.size := by simpa using hb2.size
  simp only [World.size_alloc] at hr
  have HR := hide hr
  have kZ := Z2.out.cell
  have fZ := Z2.out.frozen
  unfold rqZero at kZ
  have yZ := Z2.out.lt
  clear hr hb2 hs hs2
  go_wp2_with fail
  have hz10 := Z2.out
  unfold rqZero at hz10
  obtain ⟨hB10, hg10⟩ := st10 hz10 (.int .i64 r.way) (.int .i64 r.pal.w) (.int .i64 r.pal.d) (.int .i64 r.pal.h) (.int .i64 r.pal.gram) (.int .i64 r.cls) (.slice A1 n1 c1) (.slice A2 n2 c2) (.int .i64 r.master) (.slice A3 n3 c3)
  refine ret_cell Tryz.results21 rfl hB10 Tryz.underlying37 rfl (by kernel_rfl) rfl ?_
  exact ⟨⟨r, A1, n1, c1, A2, n2, c2, A3, n3, c3, rfl, ⟨slk_fin HR.out.pr hg10, slk_fin HR.out.ty hg10, slk_fin HR.out.it hg10⟩, hn1, hn2, hn3⟩, L2.out.grown hg10 (by omega) (fun x hx => by have hx2 : w.heap.size = x := Option.some.inj hx; omega)⟩
set_option maxRecDepth 20000 in
set_option maxHeartbeats 2000000 in
theorem drawGroupsOf_any (A : Option Addr) (n c : Nat) (bs : List Int) (w : World) (hs : SlK 1 encByte w 0 w.heap.size A n c bs) (hb : ∀ b ∈ bs, 0 ≤ b ∧ b ≤ 255) :
    Calls Tryz.prog 31 #[.slice A n c] w fun e w' => (∃ (r : Rq) (A1 : Option Addr) (n1 c1 : Nat) (A2 : Option Addr) (n2 c2 : Nat) (A3 : Option Addr) (n3 c3 : Nat), e = .returned (.agg #[.int .i64 r.way, .int .i64 r.pal.w, .int .i64 r.pal.d, .int .i64 r.pal.h, .int .i64 r.pal.gram, .int .i64 r.cls, .slice A1 n1 c1, .slice A2 n2 c2, .int .i64 r.master, .slice A3 n3 c3]) ∧ RqAt w' w.heap.size w'.heap.size r A1 n1 c1 A2 n2 c2 A3 n3 c3 ∧ n1 ≤ 33 ∧ n2 ≤ 6 ∧ n3 ≤ 6) ∧ Below w.heap.size w w' := by
  have hs2 := (hs.alloc (Nat.le_refl _) (.cells rqZero 37)).more (Nat.le_refl 0) (show w.heap.size ≤ (w.alloc (.cells rqZero 37)).heap.size by simp)
  go_enter Tryz.func31, Tryz.ntmps31
  go_wp2_with fail
  refine (drawClass_any A n c bs _ hs2 hb).mono ?_
  rintro e w2 ⟨⟨r, A1, n1, c1, A2, n2, c2, A3, n3, c3, rfl, hr, hn1, hn2, hn3⟩, hb2⟩
  have Z2 := hide (Blk.belowH (Blk.new w 37 rqZero rfl) hb2)
  have L2 := hide (show Below w.heap.size w w2 from (by repeat (first | with_reducible exact Below.refl _ _ | with_reducible assumption | with_reducible refine Below.setCell ?_ (by (try simp) <;> omega) _ | with_reducible refine Below.alloc ?_ (by (try simp) <;> omega) _ | with_reducible refine Below.drew ?_ | with_reducible refine below_drewN ?_ _ | with_reducible exact hb2 | with_reducible refine Below.trans ?_ (Below.mono hb2 (by (try simp) <;> omega)))))
  have z2 : w.heap.size + 1 ≤ w2.heap.size := by simpa using hb2.size
  simp only [World.size_alloc] at hr
  have HR := hide hr
  have kZ := Z2.out.cell
  have fZ := Z2.out.frozen
  unfold rqZero at kZ
  have yZ := Z2.out.lt
  clear hr hb2 hs hs2
  go_wp2_with fail
  have hz10 := Z2.out
  unfold rqZero at hz10
  obtain ⟨hB10, hg10⟩ := st10 hz10 (.int .i64 r.way) (.int .i64 r.pal.w) (.int .i64 r.pal.d) (.int .i64 r.pal.h) (.int .i64 r.pal.gram) (.int .i64 r.cls) (.slice A1 n1 c1) (.slice A2 n2 c2) (.int .i64 r.master) (.slice A3 n3 c3)
  refine ret_cell Tryz.results31 rfl hB10 Tryz.underlying37 rfl (by kernel_rfl) rfl ?_
  exact ⟨⟨r, A1, n1, c1, A2, n2, c2, A3, n3, c3, rfl, ⟨slk_fin HR.out.pr hg10, slk_fin HR.out.ty hg10, slk_fin HR.out.it hg10⟩, hn1, hn2, hn3⟩, L2.out.grown hg10 (by omega) (fun x hx => by have hx2 : w.heap.size = x := Option.some.inj hx; omega)⟩
end Go.Proofs.YtehgdhekiogppaaGreat
