/- Groups, the program's and the reference's. -/
import Derived.Test.YtehgdhekiogppaaGreatGrp
import Derived.Test.YtehgdhekiogppaaGreatGof
import Derived.Test.YtehgdhekiogppaaGreatKin
import Derived.Test.YtehgdhekiogppaaGreatC4
import Derived.Test.YtehgdhekiogppaaGreatCur
namespace Go.Proofs.YtehgdhekiogppaaGreat
open Go.ChangeShapes Go.WideShapes Go.ChangeAt Go.RowKit Go.Deep
set_option linter.unusedVariables false
set_option linter.unusedSimpArgs false

/-- Two kinds may lie beside one another, both ways. -/
def mutB (ps : List Pr) (x k : Int) : Bool := besB ps x k && besB ps k x
theorem mutB_swap (ps : List Pr) (x k : Int) : (besB ps k x && besB ps x k) = mutB ps x k := Bool.and_comm _ _
/-- The kinds of a list that are there, ascending, each once. -/
def kindsTo (xs : List Int) (k : Nat) : List Int := (rng k).filter (hasB xs)
def inKinds (ks : List Int) : List Int := ks.filter fun k => inB k 0 3
theorem kindsTo_succ (xs : List Int) (k : Nat) : kindsTo xs (k + 1) = kindsTo xs k ++ (if hasB xs k then [(k : Int)] else []) := by
  unfold kindsTo
  rw [rng_succ, List.filter_append]
  congr 1
  cases h : hasB xs k <;> simp [h]
theorem kindsTo_len (xs : List Int) (k : Nat) : (kindsTo xs k).length ≤ k := by
  unfold kindsTo
  have := List.length_filter_le (hasB xs) (rng k)
  rwa [rng_len] at this
theorem inKinds_eq (xs : List Int) : inKinds (kindsL xs) = kindsTo xs 4 := by
  obtain ⟨h1, h2⟩ := kinds_asc xs
  refine asc_unique (h1.filter _) ((rng_lt 4).filter _) fun z => ?_
  unfold inKinds kindsTo
  rw [List.mem_filter, List.mem_filter, mem_rng, h2, inB_iff, hasB_iff]
  constructor
  · rintro ⟨h, h3⟩; exact ⟨by omega, h⟩
  · rintro ⟨h3, h⟩; exact ⟨h, by omega⟩
theorem inKinds_snoc {ks : List Int} {k : Nat} {x : Int} (hx : ks[k]? = some x) : inKinds (ks.take (k + 1)) = inKinds (ks.take k) ++ (if inB x 0 3 then [x] else []) := by
  unfold inKinds
  rw [take_snoc hx, List.filter_append]
  congr 1
  cases h : inB x 0 3 <;> simp [h]
/-- The groups of the kinds that are there. -/
def grpR (ps : List Pr) (xs : List Int) : List (List Int) := groupsL (mutB ps) (kindsTo xs 4)
theorem addG_len (m : Int → Int → Bool) (out : List (List Int)) (k : Int) : (addG m out k).length ≤ out.length + 1 := by
  unfold addG
  split <;> simp
theorem foldG_len (m : Int → Int → Bool) : ∀ (ks : List Int) (out : List (List Int)), (ks.foldl (addG m) out).length ≤ out.length + ks.length
  | [], out => by simp
  | k :: ks, out => by
    have h1 := foldG_len m ks (addG m out k)
    have h2 := addG_len m out k
    rw [List.foldl_cons, List.length_cons]
    omega
theorem groupsL_len (m : Int → Int → Bool) (ks : List Int) : (groupsL m ks).length ≤ ks.length := by
  have := foldG_len m ks []
  rw [List.length_nil, Nat.zero_add] at this
  exact this
def sumL (out : List (List Int)) : Nat := (out.map List.length).sum
theorem sumL_modify (k : Int) : ∀ (out : List (List Int)) (i : Nat), i < out.length → sumL (out.modify i (· ++ [k])) = sumL out + 1
  | [], i, h => absurd h (by simp)
  | g :: out, 0, h => by simp [sumL]; omega
  | g :: out, i + 1, h => by
    have := sumL_modify k out i (by simpa using h)
    unfold sumL at this ⊢
    rw [List.modify_succ_cons, List.map_cons, List.map_cons, List.sum_cons, List.sum_cons, this]
    omega
theorem addG_tot (m : Int → Int → Bool) (out : List (List Int)) (k : Int) : sumL (addG m out k) = sumL out + 1 := by
  rcases idxOf_cases (fun g => joinB m g k) out with hi | ⟨i, hil, hi⟩
  · rw [addG_new hi]; simp [sumL]
  · rw [addG_old hi, sumL_modify k out i hil]
theorem foldG_tot (m : Int → Int → Bool) : ∀ (ks : List Int) (out : List (List Int)), sumL (ks.foldl (addG m) out) = sumL out + ks.length
  | [], out => by simp
  | k :: ks, out => by
    have h1 := foldG_tot m ks (addG m out k)
    have h2 := addG_tot m out k
    rw [List.foldl_cons, List.length_cons]
    omega
theorem groupsL_tot (m : Int → Int → Bool) (ks : List Int) : sumL (groupsL m ks) = ks.length := by
  have := foldG_tot m ks []
  rw [show sumL [] = 0 from rfl, Nat.zero_add] at this
  exact this
set_option maxHeartbeats 400000 in
theorem mutual_any (a b : Int) (lo hi : Nat) (A : Option Addr) (n c : Nat) (ps : List Pr) (w : World) (hs : SlK 2 encPr w lo hi A n c ps) (hB : hi ≤ w.heap.size) :
    Calls Tryz.prog 103 #[.slice A n c, .int .i64 a, .int .i64 b] w fun e w' => e = .returned (.bool (mutB ps b a)) ∧ Below w.heap.size w w' := by
  have HS := hide hs
  have HB1 := hide (bes_any a b lo hi A n c ps)
  have HB2 := hide (bes_any b a lo hi A n c ps)
  have HF := hide (mutB_swap ps b a)
  clear hs
  obtain ⟨t1, ht1⟩ : ∃ t, besB ps a b = t := ⟨_, rfl⟩
  obtain ⟨t2, ht2⟩ : ∃ t, besB ps b a = t := ⟨_, rfl⟩
  rw [ht1] at HB1 HF
  rw [ht2] at HB2 HF
  clear ht1 ht2
  go_enter Tryz.func103, Tryz.ntmps103
  go_wp2_with fail
  refine (HB1.out _ HS.out (by omega)).mono ?_
  rintro e w1 ⟨rfl, hb1⟩
  have z1 := hb1.size
  have HS1 := hide (HS.out.below hb1 (by omega))
  cases t1
  · go_wp2
    go_ret
    exact ⟨ret_bool (by rw [← HF.out]; rfl), hb1⟩
  · go_wp2_with fail
    refine (HB2.out _ HS1.out (by omega)).mono ?_
    rintro e w2 ⟨rfl, hb2⟩
    go_wp2
    go_ret
    exact ⟨ret_bool (by rw [← HF.out]; rfl), hb1.trans (hb2.mono (by omega))⟩
set_option maxHeartbeats 400000 in
theorem predGps1 (k : Int) (lo hi : Nat) (A : Option Addr) (n c : Nat) (ps : List Pr) (xs : List Int) (g0 g1 : Nat) (w : World) (hs : SlK 2 encPr w lo hi A n c ps) (hB : hi ≤ w.heap.size)
    (h0 : w.cell? ⟨g0, 0, none⟩ = some (.slice A n c)) (h1 : w.cell? ⟨g1, 0, none⟩ = some (.int .i64 k)) (l0 : g0 < w.heap.size) (l1 : g1 < w.heap.size) :
    PredM Tryz.prog 102 #[.pointer (some ⟨g0, 0, none⟩), .pointer (some ⟨g1, 0, none⟩)] valInt (fun x => !mutB ps x k) xs w := fun W x _ hb => by
  show Calls Tryz.prog 102 #[.int .i64 x, .pointer (some ⟨g0, 0, none⟩), .pointer (some ⟨g1, 0, none⟩)] W fun e w' => e = .returned (.bool (!mutB ps x k)) ∧ Below W.heap.size W w'
  have HS := hide (hs.below hb hB)
  have hz := hb.size
  have k0 : W.cell? ⟨g0, 0, none⟩ = some (.slice A n c) := (hb.cell (p := ⟨g0, 0, none⟩) l0).trans h0
  have k1 : W.cell? ⟨g1, 0, none⟩ = some (.int .i64 k) := (hb.cell (p := ⟨g1, 0, none⟩) l1).trans h1
  clear hs h0 h1 hb
  obtain ⟨t1, ht1⟩ : ∃ t, mutB ps x k = t := ⟨_, rfl⟩
  have HM := hide (mutual_any k x lo hi A n c ps)
  rw [ht1] at HM
  rw [ht1]
  clear ht1
  go_enter Tryz.func102, Tryz.ntmps102
  go_wp2_with fail
  refine (HM.out _ HS.out (by omega)).mono ?_
  rintro e w1 ⟨rfl, hb1⟩
  go_wp2
  go_ret
  exact ⟨rfl, hb1⟩
theorem joinB_any (m : Int → Int → Bool) (g : List Int) (k : Int) : (!g.any fun x => !m x k) = joinB m g k := by
  unfold joinB
  simp [List.any_eq_not_all_not]
set_option maxHeartbeats 400000 in
theorem predGps (k : Int) (lo hi : Nat) (A : Option Addr) (n c : Nat) (ps : List Pr) (lo2 hi2 : Nat) (rows : List IRow) (g0 g1 : Nat) (w : World) (hs : SlK 2 encPr w lo hi A n c ps) (hB : hi ≤ w.heap.size)
    (hr : ∀ x ∈ rows, SlK 1 encInt w lo2 hi2 x.A x.n x.c x.xs) (hh : hi2 ≤ w.heap.size)
    (h0 : w.cell? ⟨g0, 0, none⟩ = some (.slice A n c)) (h1 : w.cell? ⟨g1, 0, none⟩ = some (.int .i64 k)) (l0 : g0 < w.heap.size) (l1 : g1 < w.heap.size) :
    PredM Tryz.prog 100 #[.pointer (some ⟨g0, 0, none⟩), .pointer (some ⟨g1, 0, none⟩)] valRow (fun x => joinB (mutB ps) x.xs k) rows w := fun W x hx hb => by
  show Calls Tryz.prog 100 #[.slice x.A x.n x.c, .pointer (some ⟨g0, 0, none⟩), .pointer (some ⟨g1, 0, none⟩)] W _
  have e1 : ∀ args w, (callFunc 102 args).run Tryz.prog w = .ok (.enter 102 args) w := enters_of Tryz.func102 (by kernel_rfl) rfl
  have HC := hide (fun (p : Int → Bool) lb A n c xs W hp h h' => containsFuncInt p 102 lb e1 lo2 hi2 A n c xs W hp h h')
  have HS := hide (hs.below hb hB)
  have HX := hide ((hr x hx).below hb hh)
  have hz := hb.size
  have HJ := hide (joinB_any (mutB ps) x.xs k)
  have k0 : W.cell? ⟨g0, 0, none⟩ = some (.slice A n c) := (hb.cell (p := ⟨g0, 0, none⟩) l0).trans h0
  have k1 : W.cell? ⟨g1, 0, none⟩ = some (.int .i64 k) := (hb.cell (p := ⟨g1, 0, none⟩) l1).trans h1
  have HP := hide (predGps1 k lo hi A n c ps x.xs g0 g1 W HS.out (by omega) k0 k1 (by omega) (by omega))
  clear hs h0 h1 hb hr hx e1
  go_enter Tryz.func100, Tryz.ntmps100
  go_wp2_with fail
  refine (HC.out _ _ x.A x.n x.c x.xs _ HP.out HX.out (by omega)).mono ?_
  rintro e w1 ⟨rfl, hb1⟩
  obtain ⟨t, ht⟩ : ∃ t, (x.xs.any fun y => !mutB ps y k) = t := ⟨_, rfl⟩
  have HJ2 := hide (show (!t) = joinB (mutB ps) x.xs k by rw [← ht]; exact HJ.out)
  rw [ht]
  clear ht HJ
  go_wp2
  go_ret
  exact ⟨ret_bool HJ2.out, hb1⟩
theorem appRow {w : World} {base : Nat} {v : Value} {xs : List IRow} {g : Nat} (hg : g = w.heap.size) (ho : Own 1 encRow 29 w base v xs) (hb : base ≤ w.heap.size) (hn : xs.length ≤ 4194304) (r : IRow) (cs : Array Value) (hcs : cs = #[valRow r]) :
    AppOk Tryz.prog 1 encRow (w.alloc (.cells cs 29)) base 55 29 v xs (some ⟨g, 0, none⟩) 1 1 [r] where
  hk := encRow_len
  h1 := encRow_one
  ht := Tryz.underlying55
  info := ⟨zS, 24, IntS_info, rfl, by omega⟩
  pos := by omega
  own := ho.alloc _
  src := ⟨_, _, by subst hg; exact slk_new encRow_len w [r] 1 _ _ rfl (by simp [maxLen]) hcs⟩
  h63 := by unfold maxLen; omega
  hb := by simp; omega
theorem own_lit0 {α : Type} {enc : α → List Value} (w : World) (e : TypeId) (base : Nat) (hb : base ≤ w.heap.size) {g : Nat} (hg : g = w.heap.size) : Own 1 enc e (w.alloc (.cells #[] e)) base (.slice (some ⟨g, 0, none⟩) 0 0) ([] : List α) := by
  subst hg
  have := World.ownsRow_lit (base := base) (size := 1) (e := e) w #[] 0 hb (by simp [maxLen]) rfl
  show World.ownsRow _ base e 1 _ 0 []
  exact this
theorem GrpAt.base_le {eS eI : TypeId} {w : World} {base base' : Nat} {v : Value} {rows : List IRow} (h : GrpAt eS eI w base v rows) (hb : base' ≤ base) : GrpAt eS eI w base' v rows :=
  ⟨h.out.base_le hb, fun r hr => ⟨(h.inn r hr).1.base_le hb, (h.inn r hr).2⟩, h.dis, h.apart⟩
theorem intInfoG : (Tryz.prog.info? 3).map (fun i => (i.zero, i.size, i.bytes)) = some (some zI, 1, 8) := by kernel_rfl
theorem appX {w : World} {base : Nat} {v : Value} {xs : List Int} {g : Nat} (hg : g = w.heap.size) (ho : Own 1 encInt 3 w base v xs) (hb : base ≤ w.heap.size) (hn : xs.length ≤ 4194304) (x : Int) :
    AppOk Tryz.prog 1 encInt (w.alloc (.cells #[.int .i64 x] 3)) base 29 3 v xs (some ⟨g, 0, none⟩) 1 1 [x] where
  hk := encInt_len
  h1 := encInt_one
  ht := Tryz.underlying29
  info := ⟨zI, 8, intInfoG, rfl, by omega⟩
  pos := by omega
  own := ho.alloc _
  src := ⟨_, _, by subst hg; exact slk_one w x _⟩
  h63 := by unfold maxLen; omega
  hb := by simp; omega
/-- The rows' blocks are newer than s; the groups' own block is, or it is g0. -/
structure GrpSep (s g0 : Nat) (v : Value) (rows : List IRow) : Prop where
  out : ∀ x, v.ownBlock = some x → x = g0 ∨ s ≤ x
  inn : ∀ r ∈ rows, ∀ x, (valRow r).ownBlock = some x → s ≤ x
theorem GrpSep.push {s g0 sz : Nat} {v v' : Value} {rows : List IRow} {r : IRow} (h : GrpSep s g0 v rows) (hr : ∀ x, (valRow r).ownBlock = some x → s ≤ x) (hv : v'.ownBlock = v.ownBlock ∨ v'.ownBlock = some sz) (hs : s ≤ sz) : GrpSep s g0 v' (rows ++ [r]) :=
  ⟨fun x hx => by
    rcases hv with hv | hv
    · exact h.out x (hv ▸ hx)
    · rw [hv] at hx; injection hx with hx; omega,
   fun q hq x hx => by
    rw [List.mem_append, List.mem_singleton] at hq
    rcases hq with hq | rfl
    · exact h.inn q hq x hx
    · exact hr x hx⟩
theorem GrpSep.put {s g0 sz i : Nat} {v : Value} {rows : List IRow} {r r' : IRow} (h : GrpSep s g0 v rows) (hi : rows[i]? = some r) (hv : (valRow r').ownBlock = (valRow r).ownBlock ∨ (valRow r').ownBlock = some sz) (hs : s ≤ sz) : GrpSep s g0 v (rows.set i r') :=
  ⟨h.out, fun q hq x hx => by
    rcases List.mem_or_eq_of_mem_set hq with hq | rfl
    · exact h.inn q hq x hx
    · rcases hv with hv | hv
      · exact h.inn r (List.mem_of_getElem? hi) x (hv ▸ hx)
      · rw [hv] at hx; injection hx with hx; omega⟩
theorem slk_gr {α : Type} {k : Nat} {enc : α → List Value} {w w' : World} {lo hi : Nat} {A : Option Addr} {n c : Nat} {xs : List α} {r : Option Nat} (h : SlK k enc w lo hi A n c xs) (hg : w.grownBy w' r) (hB : hi ≤ w.heap.size) (h1 : ∀ z, r = some z → z < lo ∨ hi ≤ z) : SlK k enc w' lo hi A n c xs := h.grown hg hB h1
theorem grpL_new {m : Int → Int → Bool} {ks : List Int} {x : Int} {rows : List IRow} {r : IRow} (h : rowsL rows = groupsL m ks) (hr : r.xs = [x]) (hi : idxOf (fun y : IRow => joinB m y.xs x) rows = -1) : rowsL (rows ++ [r]) = groupsL m (ks ++ [x]) := by
  rw [groupsL_snoc, ← h, addG_new (by unfold rowsL; rw [idxOf_map]; exact hi)]
  unfold rowsL
  rw [List.map_append]
  simp [hr]
theorem grpL_old {m : Int → Int → Bool} {ks : List Int} {x : Int} {rows : List IRow} {r r' : IRow} {i : Nat} (h : rowsL rows = groupsL m ks) (hr : r'.xs = r.xs ++ [x]) (hx : rows[i]? = some r) (hi : idxOf (fun y : IRow => joinB m y.xs x) rows = i) : rowsL (rows.set i r') = groupsL m (ks ++ [x]) := by
  rw [groupsL_snoc, ← h, addG_old (by unfold rowsL; rw [idxOf_map]; exact hi), modify_set _ _ i r.xs (by unfold rowsL; rw [List.getElem?_map, hx]; rfl), rowsL_set, hr]
theorem len_le_sumL {g : List Int} : ∀ {out : List (List Int)}, g ∈ out → g.length ≤ sumL out
  | x :: out, h => by
    unfold sumL
    rw [List.map_cons, List.sum_cons]
    rcases List.mem_cons.1 h with rfl | h
    · omega
    · have := len_le_sumL h
      unfold sumL at this
      omega
theorem grp_row_len {m : Int → Int → Bool} {ks : List Int} {rows : List IRow} {r : IRow} (h : rowsL rows = groupsL m ks) (hr : r ∈ rows) : r.xs.length ≤ ks.length := by
  have h1 : r.xs ∈ groupsL m ks := by rw [← h]; exact List.mem_map_of_mem hr
  have := len_le_sumL h1
  rwa [groupsL_tot] at this
theorem inKinds_len (ks : List Int) (k : Nat) : (inKinds (ks.take k)).length ≤ k := by
  unfold inKinds
  have := List.length_filter_le (fun k => inB k 0 3) (ks.take k)
  rw [List.length_take] at this
  omega
set_option maxRecDepth 20000 in
set_option maxHeartbeats 2000000 in
theorem groups_any (lo hi : Nat) (A : Option Addr) (n c : Nat) (ps : List Pr) (lo2 hi2 : Nat) (A' : Option Addr) (n' c' : Nat) (xs : List Int) (w : World) (hs : SlK 2 encPr w lo hi A n c ps) (hB : hi ≤ w.heap.size) (hx : SlK 1 encInt w lo2 hi2 A' n' c' xs) (hB2 : hi2 ≤ w.heap.size) (hn : n' ≤ 4194304) :
    Calls Tryz.prog 65 #[.slice A n c, .slice A' n' c'] w fun e w' => ∃ v rows, e = .returned v ∧ GrpAt 29 3 w' w.heap.size v rows ∧ rowsL rows = grpR ps xs ∧ Below w.heap.size w w' := by
  have HU := hide (show groupsL (mutB ps) (inKinds (kindsL xs)) = grpR ps xs by rw [inKinds_eq]; rfl)
  have HKA := hide (kinds_any lo2 hi2 A' n' c' xs)
  have hlen : (kindsL xs).length ≤ n' := by have := kindsL_len xs; have := hx.len; omega
  obtain ⟨ks, hks⟩ : ∃ ks, kindsL xs = ks := ⟨_, rfl⟩
  rw [hks] at HU HKA hlen
  clear hks
  obtain ⟨m, hm⟩ : ∃ m, ks.length = m := ⟨_, rfl⟩
  rw [hm] at hlen
  have HM := hide hm
  obtain ⟨mu, hmu⟩ : ∃ mu, mutB ps = mu := ⟨_, rfl⟩
  have HMU := hide hmu
  rw [hmu] at HU
  have e1 : ∀ args w, (callFunc 100 args).run Tryz.prog w = .ok (.enter 100 args) w := enters_of Tryz.func100 (by kernel_rfl) rfl
  have HC := hide (fun (p : IRow → Bool) lb lo hi A n c xs W hp h h' => indexFuncRow p 100 lb e1 lo hi A n c xs W hp h h')
  clear e1 hm hmu
  go_enter Tryz.func65, Tryz.ntmps65
  go_wp2_with fail
  refine (HKA.out _ (hx.below (B := w.heap.size) (by repeat (first | with_reducible exact Below.refl _ _ | with_reducible assumption | with_reducible refine Below.setCell ?_ (by (try simp) <;> omega) _ | with_reducible refine Below.alloc ?_ (by (try simp) <;> omega) _ | with_reducible refine Below.drew ?_ | with_reducible refine below_drewN ?_ _)) hB2) hn).mono ?_
  rintro e w1 ⟨v, rfl, ho, hb1⟩
  obtain ⟨A1, c1, rfl, s1⟩ := Own.slk' encInt_len HM.out ho
  have P1 := hide (Blk.belowH ((Blk.new w 33 (#[.slice A n c]) rfl).alloc (.cells #[] 29)) hb1)
  have HS0 := hide hs
  have L1 := hide (show Below w.heap.size w w1 from (by repeat (first | with_reducible exact Below.refl _ _ | with_reducible assumption | with_reducible refine Below.setCell ?_ (by (try simp) <;> omega) _ | with_reducible refine Below.alloc ?_ (by (try simp) <;> omega) _ | with_reducible refine Below.drew ?_ | with_reducible refine below_drewN ?_ _ | with_reducible exact hb1 | with_reducible refine Below.trans ?_ (Below.mono hb1 (by (try simp) <;> omega)))))
  have z1 : w.heap.size + 2 ≤ w1.heap.size := by simpa using hb1.size
  have m1 := s1.max
  have m2 := s1.cap
  have HK := hide s1
  have HO0 := hide (show Own 1 encRow 29 w1 (w.heap.size + 1) (.slice (some ⟨w.heap.size + 1, 0, none⟩) 0 0) ([] : List IRow) from Own.below (own_lit0 (w.alloc (Obj.cells #[Value.slice A n c] 33)) 29 (w.heap.size + 1) (by simp) (by simp)) hb1)
  clear s1 ho hb1 hs hx HKA
  go_wp2
  go_loopw [5, 13] (fun o i wr => ∃ (k : Nat) (rows : List IRow), k ≤ m ∧ i = .int .i64 k ∧ GrpAt 29 3 wr (w.heap.size + 1) o rows ∧ GrpSep w1.heap.size (w.heap.size + 1) o rows ∧ rowsL rows = groupsL mu (inKinds (ks.take k)) ∧ rows.length ≤ k ∧ SlK 1 encInt wr (w.heap.size + 2) w1.heap.size A1 m c1 ks ∧ Blk wr w.heap.size 33 #[.slice A n c] ∧ Below w.heap.size w wr ∧ w1.heap.size ≤ wr.heap.size) (fun _ i _ => m - (intOf i).toNat)
  case atStart => exact ⟨0, [], Nat.zero_le _, rfl, GrpAt.nil_ _ _ _ _ _ HO0.out, ⟨fun x hx => by injection hx with hx; exact .inl hx.symm, fun r hr => by simp at hr⟩, rfl, Nat.le_refl _, HK.out.more (by simp) (Nat.le_refl _), P1.out, L1.out, Nat.le_refl _⟩
  case round =>
    obtain ⟨wo, hwo⟩ : ∃ wo : World, wo = wr := ⟨_, rfl⟩
    subst hwo
    obtain ⟨k, rows, hk, rfl, hG, hS, hE, hl, hKs, hP, hbel, y0⟩ := hrel
    have HG := hide hG
    have HSp := hide hS
    have HE := hide hE
    have HKs := hide hKs
    have P2 := hide hP
    have HBel := hide hbel
    have y2 := hP.lt
    clear hG hS hE hKs hP hbel HO0 P1
    by_cases hlt : k < m
    · obtain ⟨bu, ou, x, hx, rfl, _, hbu, cu, _⟩ := HKs.out.int hlt
      have HXK := hide hx
      have i0 : (0 : Int) ≤ (k : Int) := by omega
      have i1 : (k : Int) < (m : Int) := by omega
      have i2 : bu ≠ wo.heap.size := by omega
      have HX2 := hide (inKinds_snoc hx)
      clear hx
      cases hq : inB x 0 3
      · rw [hq] at HX2
        go_wp2_with fail
        refine (in_any _ _ _ _).mono ?_
        rw [hq]
        rintro e w' ⟨rfl, rfl⟩
        go_wp2
        go_roundw
        case rel => exact ⟨k + 1, rows, by omega, by go_num, HG.out.alloc _, HSp.out, by rw [HX2.out]; simpa using HE.out, by omega, HKs.out.alloc (by omega) _, P2.out.alloc _, (by repeat (first | with_reducible exact Below.refl _ _ | with_reducible assumption | with_reducible refine Below.setCell ?_ (by (try simp) <;> omega) _ | with_reducible refine Below.alloc ?_ (by (try simp) <;> omega) _ | with_reducible refine Below.drew ?_ | with_reducible refine below_drewN ?_ _ | with_reducible exact HBel.out | with_reducible refine Below.trans ?_ (Below.mono HBel.out (by (try simp) <;> omega)))), by simp; omega⟩
        case measure => simp [intOf]; omega
      · rw [hq] at HX2
        obtain ⟨nr, hnr⟩ : ∃ nr, rows.length = nr := ⟨_, rfl⟩
        have HN := hide hnr
        rw [hnr] at hl
        obtain ⟨AR, cR, e0, hR⟩ := HG.out.rowsAt
        rw [hnr] at e0 hR
        subst e0
        have HR := hide hR
        clear hR hnr
        go_wp2_with fail
        refine (in_any _ _ _ _).mono ?_
        rw [hq]
        rintro e w' ⟨rfl, rfl⟩
        have A2 := hide (Blk.new wo 3 #[.int .i64 x] rfl)
        have HI := hide (HC.out (fun y => joinB mu y.xs x) _ _ _ AR nr cR rows (wo.alloc (.cells #[.int .i64 x] 3)) (by rw [← HMU.out]; exact predGps x lo hi A n c ps (w.heap.size + 1) wo.heap.size rows w.heap.size wo.heap.size _ (HS0.out.below (B := w.heap.size) (by repeat (first | with_reducible exact Below.refl _ _ | with_reducible assumption | with_reducible refine Below.setCell ?_ (by (try simp) <;> omega) _ | with_reducible refine Below.alloc ?_ (by (try simp) <;> omega) _ | with_reducible refine Below.drew ?_ | with_reducible refine below_drewN ?_ _ | with_reducible exact HBel.out | with_reducible refine Below.trans ?_ (Below.mono HBel.out (by (try simp) <;> omega)))) hB) (by simp; omega) (fun r hr => (HR.out.inn r hr).alloc (Nat.le_refl _) _) (by simp) ((P2.out.alloc _).cell 0) (A2.out.cell 0) (by simp; omega) (by simp)) ((HR.out.out).alloc (Nat.le_refl _) _) (by simp))
        obtain ⟨ix, hix⟩ : ∃ ix, idxOf (fun y : IRow => joinB mu y.xs x) rows = ix := ⟨_, rfl⟩
        have hcs := idxOf_cases (fun y : IRow => joinB mu y.xs x) rows
        rw [hix] at HI hcs
        have HIX := hide hix
        clear hix
        go_wp2_with fail
        refine HI.out.mono ?_
        rintro e w2 ⟨rfl, hb2⟩
        have G2 := hide ((HG.out.alloc (.cells #[.int .i64 x] 3)).below hb2)
        have K2 := hide ((HKs.out.alloc (by omega) (.cells #[.int .i64 x] 3)).below hb2 (by simp; omega))
        have P3 := hide (Blk.belowH (P2.out.alloc (.cells #[.int .i64 x] 3)) hb2)
        have A3 := hide (Blk.belowH A2.out hb2)
        have L3 := hide (show Below w.heap.size w w2 from (by repeat (first | with_reducible exact Below.refl _ _ | with_reducible assumption | with_reducible refine Below.setCell ?_ (by (try simp) <;> omega) _ | with_reducible refine Below.alloc ?_ (by (try simp) <;> omega) _ | with_reducible refine Below.drew ?_ | with_reducible refine below_drewN ?_ _ | with_reducible exact HBel.out | with_reducible exact hb2 | with_reducible refine Below.trans ?_ (Below.mono HBel.out (by (try simp) <;> omega)) | with_reducible refine Below.trans ?_ (Below.mono hb2 (by (try simp) <;> omega)))))
        have y3 : wo.heap.size + 1 ≤ w2.heap.size := by simpa using hb2.size
        have q0 := A3.out.cell
        have q1 := P3.out.cell
        have HGL := hide (fun r hr g (e : (valRow r).ownBlock = some g) => ((HG.out.inn r hr).1.lt g e).2)
        clear hb2 cu HI HG HKs P2 A2
        rcases hcs with rfl | ⟨i, hil, rfl⟩
        · have HNew := hide (grpL_new (r := ⟨some ⟨w2.heap.size, 0, none⟩, 1, 1, [x]⟩) HE.out rfl HIX.out)
          have hnl : rows.length ≤ 4194304 := by rw [HN.out]; omega
          have G3 := hide (G2.out.alloc (.cells #[.int .i64 x] 3))
          have HR1 := hide ((own_lit (base := w.heap.size + 1) (w := w2) (by omega) [x] 1 (#[.int .i64 x]) 3 rfl (by simp [maxLen]) rfl))
          go_wp2_with (at_builtin; refine wpList_app rfl _ _ rfl rfl rfl (appRow (g := w2.heap.size + 1) (by simp) G3.out.out (by simp; omega) hnl ⟨some ⟨w2.heap.size, 0, none⟩, 1, 1, [x]⟩ _ rfl) ?_; intro v' w3 ho3 hg3 hat3)
          go_roundw
          case rel =>
            refine ⟨k + 1, _, by omega, by go_num, GrpAt.push (g0 := w2.heap.size) (G3.out.alloc _) (HR1.out.alloc _) (by simp) rfl (fun y hy e => by have := ((G2.out.inn y hy).1.lt _ e).2; omega) (fun e => by have := (G2.out.lt _ e).2; omega) ho3 hg3 hat3,
              HSp.out.push (fun z hz => by have hz' : w2.heap.size = z := Option.some.inj hz; omega) hat3 (by simp; omega), by rw [HNew.out, HX2.out]; rfl, by rw [List.length_append, HN.out]; simp; omega, ?_, ?_, ?_, ?_⟩
            · exact slk_gr ((K2.out.alloc (by omega) _).alloc (by simp; omega) _) hg3 (by simp; omega) (fun z hz => by rcases HSp.out.out z hz with h | h <;> omega)
            · exact ((P3.out.alloc _).alloc _).grown hg3 (fun e => by rcases HSp.out.out _ e.symm with h | h <;> omega)
            · exact ((L3.out.alloc (by omega) _).alloc (by simp; omega) _).grown hg3 (by simp; omega) (fun z hz => by rcases HSp.out.out z hz with h | h <;> omega)
            · have := hg3.size; simp at this; omega
          case measure => simp [intOf]; omega
        · obtain ⟨r, hr⟩ : ∃ r, rows[i]? = some r := ⟨_, List.getElem?_eq_getElem hil⟩
          have HRI := hide hr
          obtain ⟨gv, cv, e0, hgv0, hgv1⟩ := own_at0 G2.out.out HN.out (by rw [← HN.out]; omega)
          injection e0 with e0 e1 e2
          subst e0 e2
          obtain ⟨AX, cX, e0, hR2⟩ := G2.out.rowsAt
          rw [HN.out] at e0 hR2
          injection e0 with e0 e1 e2
          subst e0 e2
          have hil2 : i < nr := by rw [← HN.out]; exact hil
          obtain ⟨b9, o9, r', hr', e0, _, _, d0, _⟩ := hR2.out.row hil2
          injection e0 with e0
          injection e0 with e0 e1
          subst e0 e1
          obtain rfl : r' = r := by rw [hr] at hr'; exact (Option.some.inj hr').symm
          obtain ⟨hri, hrn⟩ := G2.out.inn _ (List.mem_of_getElem? hr)
          obtain ⟨gr, hgr, hgr0, hgr1, hgr2, hgr3⟩ := own_some hri hrn
          have hgrs := HSp.out.inn _ (List.mem_of_getElem? hr) gr hgr
          have hgne : gr ≠ gv := fun e => G2.out.apart _ (List.mem_of_getElem? hr) (by rw [hgr, e]; rfl)
          have hR1 := HRI.out
          have HNew := fun (r2 : IRow) (h : r2.xs = r'.xs ++ [x]) => grpL_old (r' := r2) HE.out h hR1 HIX.out
          have HNewH := hide HNew
          have hsum : r'.xs.length ≤ 4194304 := by
            have h1 := grp_row_len HE.out (List.mem_of_getElem? hr)
            have h2 := inKinds_len ks k
            omega
          have hgrw : gr < wo.heap.size := HGL.out _ (List.mem_of_getElem? hr) gr hgr
          have HRO := hide hri
          have HRN := hide hrn
          have HGR := hide hgr
          obtain ⟨AZ, nx, cx, xr⟩ := r'
          subst hgr3
          have HNX := hide hgr2
          rw [Nat.zero_add] at d0
          clear hgr2
          have i5 : (i : Int) < (nr : Int) := by omega
          have i6 : gv < w2.heap.size := by omega
          have i7 : wo.heap.size < w2.heap.size := by omega
          clear hr hr' hR2 hri hrn hgr HNew hR1
          go_wp2_with fail
          refine wp_region_held_drew (S := (fun _ => True)) (by kernel_rfl) ?hS0 (fun hHeld => ?_)
          case hS0 => (first | done | trivial)
          refine wpAnyH_take (i := 0) (v := ?_) rfl (by kernel_rfl) (by kernel_rfl) (by kernel_rfl) (fun _ _ _ h => h) (Or.inl ⟨by rfl, ?_⟩) (by assumption) ?_
          rotate_left 1
          · intro w hSw
            try dsimp only at hSw
            go_simp
            try with_reducible rfl
          simp only [Act.put, List.getElem_toArray, List.getElem_cons_succ, List.getElem_cons_zero, List.setIfInBounds_toArray, List.set_cons_zero, List.set_cons_succ]
          refine wpAnyH_take (i := 1) (v := ?_) rfl (by kernel_rfl) (by kernel_rfl) (by kernel_rfl) (fun _ _ _ h => h) (Or.inl ⟨by rfl, ?_⟩) (by assumption) ?_
          rotate_left 1
          · intro w hSw
            try dsimp only at hSw
            go_simp
            try with_reducible rfl
          simp only [Act.put, List.getElem_toArray, List.getElem_cons_succ, List.getElem_cons_zero, List.setIfInBounds_toArray, List.set_cons_zero, List.set_cons_succ]
          refine wpAnyH_take (i := 2) (v := ?_) rfl (by kernel_rfl) (by kernel_rfl) (by kernel_rfl) (fun _ _ _ h => h) (Or.inl ⟨by rfl, ?_⟩) (by assumption) ?_
          rotate_left 1
          · intro w hSw
            try dsimp only at hSw
            go_simp
            try with_reducible rfl
          simp only [Act.put, List.getElem_toArray, List.getElem_cons_succ, List.getElem_cons_zero, List.setIfInBounds_toArray, List.set_cons_zero, List.set_cons_succ]
          refine wpAnyH_take (i := 3) (v := ?_) rfl (by kernel_rfl) (by kernel_rfl) (by kernel_rfl) (fun _ _ _ h => h) (Or.inl ⟨by rfl, ?_⟩) (by assumption) ?_
          rotate_left 1
          · intro w hSw
            try dsimp only at hSw
            go_simp
            try with_reducible rfl
          simp only [Act.put, List.getElem_toArray, List.getElem_cons_succ, List.getElem_cons_zero, List.setIfInBounds_toArray, List.set_cons_zero, List.set_cons_succ]
          refine wpAnyH_take (i := 4) (v := ?_) rfl (by kernel_rfl) (by kernel_rfl) (by kernel_rfl) (fun _ _ _ h => h) (Or.inl ⟨by rfl, ?_⟩) (by assumption) ?_
          rotate_left 1
          · intro w hSw
            try dsimp only at hSw
            go_simp
            try with_reducible rfl
          simp only [Act.put, List.getElem_toArray, List.getElem_cons_succ, List.getElem_cons_zero, List.setIfInBounds_toArray, List.set_cons_zero, List.set_cons_succ]
          refine wpAnyH_ready (rs := [5, 6]) (by kernel_rfl) (by simp) ?_
          refine AllReadyH.cons rfl (fun K hK => ?_) ?_
          · skip
            go_simp
            refine hK.out _ _ ?hS1 (fun hHeld => ?_)
            case hS1 => (try dsimp only); (first | done | trivial)
            clear hK K
            try simp only [Act.put, List.getElem_toArray, List.getElem_cons_succ, List.getElem_cons_zero, List.setIfInBounds_toArray, List.set_cons_zero, List.set_cons_succ]
            refine wpAnyH_ready (rs := [6]) (by kernel_rfl) (by simp) ?_
            refine AllReadyH.cons rfl (fun K hK => ?_) AllReadyH.nil
            go_simp
            refine hK.out _ _ ?hS1 (fun hHeld => ?_)
            case hS1 => (try dsimp only); (first | done | trivial)
            clear hK K
            try simp only [Act.put, List.getElem_toArray, List.getElem_cons_succ, List.getElem_cons_zero, List.setIfInBounds_toArray, List.set_cons_zero, List.set_cons_succ]
            refine wpAnyH_ready (rs := [7]) (by kernel_rfl) (by simp) ?_
            refine AllReadyH.cons rfl (fun K hK => ?_) AllReadyH.nil
            go_simp
            refine hK.out _ _ ?hS1 (fun hHeld => ?_)
            case hS1 => (try dsimp only); (first | done | trivial)
            clear hK K
            try simp only [Act.put, List.getElem_toArray, List.getElem_cons_succ, List.getElem_cons_zero, List.setIfInBounds_toArray, List.set_cons_zero, List.set_cons_succ]
            have G4 := hide (G2.out.drew.alloc (.cells #[.int .i64 x] 3))
            have HRO4 := hide ((HRO.out.drew).alloc (.cells #[.int .i64 x] 3))
            refine wpAnyH_ready (rs := [8]) (by kernel_rfl) (by simp) ?_
            refine AllReadyH.cons rfl (fun K hK => ?_) AllReadyH.nil
            refine step_app rfl (.tmp 35) (.tmp 37) rfl (by simp [Act.eval, valRow]) (by simp [Act.eval]) (appX (g := w2.heap.size) (by simp) (HRO.out.drew) (by simp; omega) hsum x) ?_
            intro v4 w4 ho4 hg4 hat4
            obtain ⟨m4, hm4⟩ : ∃ m4, (xr ++ [x]).length = m4 := ⟨_, rfl⟩
            obtain ⟨A4, c4, rfl, s4'⟩ := Own.slk' encInt_len hm4 ho4
            clear s4'
            have HM4 := hide hm4
            clear hm4
            have HG4 := hide hg4
            have HAT := hide hat4
            have HO4 := hide ho4
            have z4 : w2.heap.size + 1 ≤ w4.heap.size := by have := hg4.size; simpa using this
            have HV4 := hide (G4.out.out.grown hg4 (.inr (fun e => hgne (Option.some.inj e).symm)))
            obtain ⟨A9, c9, e9, s9⟩ := Own.slk' encRow_len HN.out HV4.out
            injection e9 with e9 e10 e11
            subst e9 e11
            obtain ⟨b9, o9, r9, hr9, e9, _, _, d9, f9⟩ := s9.row hil2
            injection e9 with e9
            injection e9 with e9 e10
            subst e9 e10
            rw [HRI.out] at hr9
            obtain rfl := Option.some.inj hr9
            rw [Nat.zero_add] at d9 f9
            have A4b := hide (((A3.out.drew).alloc (.cells #[.int .i64 x] 3)).grown hg4 (fun e => by have e2 : wo.heap.size = gr := Option.some.inj e; omega))
            have a4 := A4b.out.cell
            have i8 : gv < w4.heap.size := by omega
            clear hg4 hat4 ho4 s9 hr9 q0
            refine hK.out _ _ trivial (fun _ => ?_)
            clear hK K
            try simp only [Act.put, List.getElem_toArray, List.getElem_cons_succ, List.getElem_cons_zero, List.setIfInBounds_toArray, List.set_cons_zero, List.set_cons_succ]
            refine wpAnyH_ready (rs := [9]) (by kernel_rfl) (by simp) ?_
            refine AllReadyH.cons rfl (fun K hK => ?_) AllReadyH.nil
            go_simp
            refine hK.out _ _ trivial (fun _ => ?_)
            clear hK K
            try simp only [Act.put, List.getElem_toArray, List.getElem_cons_succ, List.getElem_cons_zero, List.setIfInBounds_toArray, List.set_cons_zero, List.set_cons_succ]
            refine wpAnyH_ready (rs := [10]) (by kernel_rfl) (by simp) ?_
            refine AllReadyH.cons rfl (fun K hK => ?_) AllReadyH.nil
            go_simp
            refine hK.out _ _ trivial (fun _ => ?_)
            clear hK K
            try simp only [Act.put, List.getElem_toArray, List.getElem_cons_succ, List.getElem_cons_zero, List.setIfInBounds_toArray, List.set_cons_zero, List.set_cons_succ]
            refine wpAnyH_done (by kernel_rfl) ?_ _
            go_wp2_with fail
            go_roundw
            case rel =>
              refine ⟨k + 1, _, by omega, by go_num, GrpAt.put (r' := ⟨A4, m4, c4, xr ++ [x]⟩) G4.out HRI.out HO4.out (by simp) HG4.out HAT.out, HSp.out.put (r' := ⟨A4, m4, c4, xr ++ [x]⟩) HRI.out HAT.out (by simp; omega), by rw [HNewH.out _ rfl, HX2.out]; rfl, by rw [List.length_set, HN.out]; omega, ?_, ?_, ?_, ?_⟩
              · exact slk_gr (slk_gr ((K2.out.drew).alloc (by simp; omega) _) HG4.out (by simp; omega) (fun z hz => by have e2 : gr = z := Option.some.inj hz; omega)) (grown_set _ gv i _) (by omega) (fun z hz => by have e2 : gv = z := Option.some.inj hz; rcases HSp.out.out gv rfl with h | h <;> omega)
              · exact (((P3.out.drew).alloc _).grown HG4.out (fun e => by have e2 : w.heap.size = gr := Option.some.inj e; omega)).far (by show w.heap.size ≠ gv; omega) _
              · exact (((L3.out.drew).alloc (by simp; omega) _).grown HG4.out (by simp; omega) (fun z hz => by have e2 : gr = z := Option.some.inj hz; omega)).setCell (p := ⟨gv, i, none⟩) (by show w.heap.size ≤ gv; omega) _
              · simp; omega
            case measure => first | omega | (simp [intOf]; omega)
          refine AllReadyH.cons rfl (fun K hK => ?_) ?_
          · skip
            go_simp
            refine hK.out _ _ ?hS1 (fun hHeld => ?_)
            case hS1 => (try dsimp only); (first | done | trivial)
            clear hK K
            try simp only [Act.put, List.getElem_toArray, List.getElem_cons_succ, List.getElem_cons_zero, List.setIfInBounds_toArray, List.set_cons_zero, List.set_cons_succ]
            refine wpAnyH_ready (rs := [5, 7]) (by kernel_rfl) (by simp) ?_
            refine AllReadyH.cons rfl (fun K hK => ?_) ?_
            · skip
              go_simp
              refine hK.out _ _ ?hS1 (fun hHeld => ?_)
              case hS1 => (try dsimp only); (first | done | trivial)
              clear hK K
              try simp only [Act.put, List.getElem_toArray, List.getElem_cons_succ, List.getElem_cons_zero, List.setIfInBounds_toArray, List.set_cons_zero, List.set_cons_succ]
              refine wpAnyH_ready (rs := [7]) (by kernel_rfl) (by simp) ?_
              refine AllReadyH.cons rfl (fun K hK => ?_) AllReadyH.nil
              go_simp
              refine hK.out _ _ ?hS1 (fun hHeld => ?_)
              case hS1 => (try dsimp only); (first | done | trivial)
              clear hK K
              try simp only [Act.put, List.getElem_toArray, List.getElem_cons_succ, List.getElem_cons_zero, List.setIfInBounds_toArray, List.set_cons_zero, List.set_cons_succ]
              have G4 := hide (G2.out.drew.alloc (.cells #[.int .i64 x] 3))
              have HRO4 := hide ((HRO.out.drew).alloc (.cells #[.int .i64 x] 3))
              refine wpAnyH_ready (rs := [8]) (by kernel_rfl) (by simp) ?_
              refine AllReadyH.cons rfl (fun K hK => ?_) AllReadyH.nil
              refine step_app rfl (.tmp 35) (.tmp 37) rfl (by simp [Act.eval, valRow]) (by simp [Act.eval]) (appX (g := w2.heap.size) (by simp) (HRO.out.drew) (by simp; omega) hsum x) ?_
              intro v4 w4 ho4 hg4 hat4
              obtain ⟨m4, hm4⟩ : ∃ m4, (xr ++ [x]).length = m4 := ⟨_, rfl⟩
              obtain ⟨A4, c4, rfl, s4'⟩ := Own.slk' encInt_len hm4 ho4
              clear s4'
              have HM4 := hide hm4
              clear hm4
              have HG4 := hide hg4
              have HAT := hide hat4
              have HO4 := hide ho4
              have z4 : w2.heap.size + 1 ≤ w4.heap.size := by have := hg4.size; simpa using this
              have HV4 := hide (G4.out.out.grown hg4 (.inr (fun e => hgne (Option.some.inj e).symm)))
              obtain ⟨A9, c9, e9, s9⟩ := Own.slk' encRow_len HN.out HV4.out
              injection e9 with e9 e10 e11
              subst e9 e11
              obtain ⟨b9, o9, r9, hr9, e9, _, _, d9, f9⟩ := s9.row hil2
              injection e9 with e9
              injection e9 with e9 e10
              subst e9 e10
              rw [HRI.out] at hr9
              obtain rfl := Option.some.inj hr9
              rw [Nat.zero_add] at d9 f9
              have A4b := hide (((A3.out.drew).alloc (.cells #[.int .i64 x] 3)).grown hg4 (fun e => by have e2 : wo.heap.size = gr := Option.some.inj e; omega))
              have a4 := A4b.out.cell
              have i8 : gv < w4.heap.size := by omega
              clear hg4 hat4 ho4 s9 hr9 q0
              refine hK.out _ _ trivial (fun _ => ?_)
              clear hK K
              try simp only [Act.put, List.getElem_toArray, List.getElem_cons_succ, List.getElem_cons_zero, List.setIfInBounds_toArray, List.set_cons_zero, List.set_cons_succ]
              refine wpAnyH_ready (rs := [9]) (by kernel_rfl) (by simp) ?_
              refine AllReadyH.cons rfl (fun K hK => ?_) AllReadyH.nil
              go_simp
              refine hK.out _ _ trivial (fun _ => ?_)
              clear hK K
              try simp only [Act.put, List.getElem_toArray, List.getElem_cons_succ, List.getElem_cons_zero, List.setIfInBounds_toArray, List.set_cons_zero, List.set_cons_succ]
              refine wpAnyH_ready (rs := [10]) (by kernel_rfl) (by simp) ?_
              refine AllReadyH.cons rfl (fun K hK => ?_) AllReadyH.nil
              go_simp
              refine hK.out _ _ trivial (fun _ => ?_)
              clear hK K
              try simp only [Act.put, List.getElem_toArray, List.getElem_cons_succ, List.getElem_cons_zero, List.setIfInBounds_toArray, List.set_cons_zero, List.set_cons_succ]
              refine wpAnyH_done (by kernel_rfl) ?_ _
              go_wp2_with fail
              go_roundw
              case rel =>
                refine ⟨k + 1, _, by omega, by go_num, GrpAt.put (r' := ⟨A4, m4, c4, xr ++ [x]⟩) G4.out HRI.out HO4.out (by simp) HG4.out HAT.out, HSp.out.put (r' := ⟨A4, m4, c4, xr ++ [x]⟩) HRI.out HAT.out (by simp; omega), by rw [HNewH.out _ rfl, HX2.out]; rfl, by rw [List.length_set, HN.out]; omega, ?_, ?_, ?_, ?_⟩
                · exact slk_gr (slk_gr ((K2.out.drew).alloc (by simp; omega) _) HG4.out (by simp; omega) (fun z hz => by have e2 : gr = z := Option.some.inj hz; omega)) (grown_set _ gv i _) (by omega) (fun z hz => by have e2 : gv = z := Option.some.inj hz; rcases HSp.out.out gv rfl with h | h <;> omega)
                · exact (((P3.out.drew).alloc _).grown HG4.out (fun e => by have e2 : w.heap.size = gr := Option.some.inj e; omega)).far (by show w.heap.size ≠ gv; omega) _
                · exact (((L3.out.drew).alloc (by simp; omega) _).grown HG4.out (by simp; omega) (fun z hz => by have e2 : gr = z := Option.some.inj hz; omega)).setCell (p := ⟨gv, i, none⟩) (by show w.heap.size ≤ gv; omega) _
                · simp; omega
              case measure => first | omega | (simp [intOf]; omega)
            refine AllReadyH.cons rfl (fun K hK => ?_) ?_
            · skip
              go_simp
              refine hK.out _ _ ?hS1 (fun hHeld => ?_)
              case hS1 => (try dsimp only); (first | done | trivial)
              clear hK K
              try simp only [Act.put, List.getElem_toArray, List.getElem_cons_succ, List.getElem_cons_zero, List.setIfInBounds_toArray, List.set_cons_zero, List.set_cons_succ]
              refine wpAnyH_ready (rs := [5]) (by kernel_rfl) (by simp) ?_
              refine AllReadyH.cons rfl (fun K hK => ?_) AllReadyH.nil
              go_simp
              refine hK.out _ _ ?hS1 (fun hHeld => ?_)
              case hS1 => (try dsimp only); (first | done | trivial)
              clear hK K
              try simp only [Act.put, List.getElem_toArray, List.getElem_cons_succ, List.getElem_cons_zero, List.setIfInBounds_toArray, List.set_cons_zero, List.set_cons_succ]
              have G4 := hide (G2.out.drew.alloc (.cells #[.int .i64 x] 3))
              have HRO4 := hide ((HRO.out.drew).alloc (.cells #[.int .i64 x] 3))
              refine wpAnyH_ready (rs := [8]) (by kernel_rfl) (by simp) ?_
              refine AllReadyH.cons rfl (fun K hK => ?_) AllReadyH.nil
              refine step_app rfl (.tmp 35) (.tmp 37) rfl (by simp [Act.eval, valRow]) (by simp [Act.eval]) (appX (g := w2.heap.size) (by simp) (HRO.out.drew) (by simp; omega) hsum x) ?_
              intro v4 w4 ho4 hg4 hat4
              obtain ⟨m4, hm4⟩ : ∃ m4, (xr ++ [x]).length = m4 := ⟨_, rfl⟩
              obtain ⟨A4, c4, rfl, s4'⟩ := Own.slk' encInt_len hm4 ho4
              clear s4'
              have HM4 := hide hm4
              clear hm4
              have HG4 := hide hg4
              have HAT := hide hat4
              have HO4 := hide ho4
              have z4 : w2.heap.size + 1 ≤ w4.heap.size := by have := hg4.size; simpa using this
              have HV4 := hide (G4.out.out.grown hg4 (.inr (fun e => hgne (Option.some.inj e).symm)))
              obtain ⟨A9, c9, e9, s9⟩ := Own.slk' encRow_len HN.out HV4.out
              injection e9 with e9 e10 e11
              subst e9 e11
              obtain ⟨b9, o9, r9, hr9, e9, _, _, d9, f9⟩ := s9.row hil2
              injection e9 with e9
              injection e9 with e9 e10
              subst e9 e10
              rw [HRI.out] at hr9
              obtain rfl := Option.some.inj hr9
              rw [Nat.zero_add] at d9 f9
              have A4b := hide (((A3.out.drew).alloc (.cells #[.int .i64 x] 3)).grown hg4 (fun e => by have e2 : wo.heap.size = gr := Option.some.inj e; omega))
              have a4 := A4b.out.cell
              have i8 : gv < w4.heap.size := by omega
              clear hg4 hat4 ho4 s9 hr9 q0
              refine hK.out _ _ trivial (fun _ => ?_)
              clear hK K
              try simp only [Act.put, List.getElem_toArray, List.getElem_cons_succ, List.getElem_cons_zero, List.setIfInBounds_toArray, List.set_cons_zero, List.set_cons_succ]
              refine wpAnyH_ready (rs := [9]) (by kernel_rfl) (by simp) ?_
              refine AllReadyH.cons rfl (fun K hK => ?_) AllReadyH.nil
              go_simp
              refine hK.out _ _ trivial (fun _ => ?_)
              clear hK K
              try simp only [Act.put, List.getElem_toArray, List.getElem_cons_succ, List.getElem_cons_zero, List.setIfInBounds_toArray, List.set_cons_zero, List.set_cons_succ]
              refine wpAnyH_ready (rs := [10]) (by kernel_rfl) (by simp) ?_
              refine AllReadyH.cons rfl (fun K hK => ?_) AllReadyH.nil
              go_simp
              refine hK.out _ _ trivial (fun _ => ?_)
              clear hK K
              try simp only [Act.put, List.getElem_toArray, List.getElem_cons_succ, List.getElem_cons_zero, List.setIfInBounds_toArray, List.set_cons_zero, List.set_cons_succ]
              refine wpAnyH_done (by kernel_rfl) ?_ _
              go_wp2_with fail
              go_roundw
              case rel =>
                refine ⟨k + 1, _, by omega, by go_num, GrpAt.put (r' := ⟨A4, m4, c4, xr ++ [x]⟩) G4.out HRI.out HO4.out (by simp) HG4.out HAT.out, HSp.out.put (r' := ⟨A4, m4, c4, xr ++ [x]⟩) HRI.out HAT.out (by simp; omega), by rw [HNewH.out _ rfl, HX2.out]; rfl, by rw [List.length_set, HN.out]; omega, ?_, ?_, ?_, ?_⟩
                · exact slk_gr (slk_gr ((K2.out.drew).alloc (by simp; omega) _) HG4.out (by simp; omega) (fun z hz => by have e2 : gr = z := Option.some.inj hz; omega)) (grown_set _ gv i _) (by omega) (fun z hz => by have e2 : gv = z := Option.some.inj hz; rcases HSp.out.out gv rfl with h | h <;> omega)
                · exact (((P3.out.drew).alloc _).grown HG4.out (fun e => by have e2 : w.heap.size = gr := Option.some.inj e; omega)).far (by show w.heap.size ≠ gv; omega) _
                · exact (((L3.out.drew).alloc (by simp; omega) _).grown HG4.out (by simp; omega) (fun z hz => by have e2 : gr = z := Option.some.inj hz; omega)).setCell (p := ⟨gv, i, none⟩) (by show w.heap.size ≤ gv; omega) _
                · simp; omega
              case measure => first | omega | (simp [intOf]; omega)
            exact AllReadyH.nil
          exact AllReadyH.nil
    · have hge : ks.length ≤ k := by rw [HM.out]; omega
      have hge' : m ≤ k := by omega
      clear hlt
      have HE2 := hide (show rowsL rows = grpR ps xs by have := HE.out; rwa [List.take_of_length_le hge, HU.out] at this)
      go_wp2
      go_ret
      exact ⟨_, _, rfl, HG.out.base_le (by omega), HE2.out, HBel.out⟩
theorem joinB_yes {m : Int → Int → Bool} {xs : List Int} {k : Int} {j : Nat} (hj : xs.length ≤ j) (h : ∀ y ∈ xs.take j, m y k = true) : joinB m xs k = true := by
  rw [List.take_of_length_le hj] at h
  unfold joinB
  rw [List.all_eq_true]
  exact h
theorem joinB_no {m : Int → Int → Bool} {xs : List Int} {k x : Int} {j : Nat} (hx : xs[j]? = some x) (h : m x k = false) : joinB m xs k = false := by
  unfold joinB
  rw [List.all_eq_false]
  exact ⟨x, List.mem_of_getElem? hx, by rw [h]; simp⟩
set_option maxRecDepth 20000 in
set_option maxHeartbeats 1000000 in
theorem joins_any (q : Int) (lo hi : Nat) (A : Option Addr) (n c : Nat) (ps : List Pr) (lo2 hi2 : Nat) (A' : Option Addr) (n' c' : Nat) (xs : List Int) (w : World) (hs : SlK 2 encPr w lo hi A n c ps) (hB : hi ≤ w.heap.size) (hx : SlK 1 encInt w lo2 hi2 A' n' c' xs) (hB2 : hi2 ≤ w.heap.size) :
    Calls Tryz.prog 114 #[.slice A n c, .slice A' n' c', .int .i64 q] w fun e w' => e = .returned (.bool (joinB (mutB ps) xs q)) ∧ Below w.heap.size w w' := by
  have hm := hx.max
  have hc' := hx.cap
  have HL := hide hx.len
  have HS := hide hs
  have HX := hide hx
  clear hs hx
  go_enter Tryz.func114, Tryz.ntmps114
  go_wp2
  go_loopw [7] (fun i wr => ∃ k : Nat, k ≤ n' ∧ i = .int .i64 k ∧ Below w.heap.size w wr ∧ ∀ y ∈ xs.take k, mutB ps y q = true) (fun i _ => n' - (intOf i).toNat)
  case atStart => exact ⟨0, Nat.zero_le _, rfl, (by repeat (first | with_reducible exact Below.refl _ _ | with_reducible assumption | with_reducible refine Below.setCell ?_ (by (try simp) <;> omega) _ | with_reducible refine Below.alloc ?_ (by (try simp) <;> omega) _ | with_reducible refine Below.drew ?_ | with_reducible refine below_drewN ?_ _)), fun a ha => by simp at ha⟩
  case round =>
    obtain ⟨k, hk, rfl, hbel, hA⟩ := hrel
    have HA := hide hA
    have HBel := hide hbel
    clear hA hbel
    by_cases hlt : k < n'
    · obtain ⟨bu, ou, x, hx, rfl, _, hbu, cu, _⟩ := (HX.out.below HBel.out hB2).int hlt
      have HXK := hide hx
      have i0 : (0 : Int) ≤ (k : Int) := by omega
      have i1 : (k : Int) < (n' : Int) := by omega
      have HC1 := hide (fun W h => sbes_any x q lo hi A n c ps W h)
      have HC2 := hide (fun W h => sbes_any q x lo hi A n c ps W h)
      obtain ⟨t1, ht1⟩ : ∃ t, besB ps x q = t := ⟨_, rfl⟩
      obtain ⟨t2, ht2⟩ : ∃ t, besB ps q x = t := ⟨_, rfl⟩
      have HT := hide (show mutB ps x q = (t1 && t2) by rw [mutB, ht1, ht2])
      rw [ht1] at HC1
      rw [ht2] at HC2
      have HSW := hide (HS.out.below HBel.out hB)
      clear hx ht1 ht2
      cases t1 <;> cases t2
      all_goals go_wp2_with (first | (go_at_call 110; (with_reducible refine (HC1.out _ HSW.out).mono ?_); rintro e w1 ⟨rfl, rfl⟩) | (go_at_call 110; (with_reducible refine (HC2.out _ HSW.out).mono ?_); rintro e w1 ⟨rfl, rfl⟩))
      all_goals first
        | (go_roundw
           case rel =>
             refine ⟨k + 1, by omega, by go_num, (by repeat (first | with_reducible exact Below.refl _ _ | with_reducible assumption | with_reducible refine Below.setCell ?_ (by (try simp) <;> omega) _ | with_reducible refine Below.alloc ?_ (by (try simp) <;> omega) _ | with_reducible refine Below.drew ?_ | with_reducible refine below_drewN ?_ _ | with_reducible exact HBel.out | with_reducible refine Below.trans ?_ (Below.mono HBel.out (by (try simp) <;> omega)))), fun y hy => ?_⟩
             rcases mem_take_succ HXK.out hy with h | h
             · exact HA.out y h
             · rw [h]; exact HT.out
           case measure => simp [intOf]; omega)
        | (go_ret
           exact ⟨ret_bool (joinB_no HXK.out HT.out).symm, (by repeat (first | with_reducible exact Below.refl _ _ | with_reducible assumption | with_reducible refine Below.setCell ?_ (by (try simp) <;> omega) _ | with_reducible refine Below.alloc ?_ (by (try simp) <;> omega) _ | with_reducible refine Below.drew ?_ | with_reducible refine below_drewN ?_ _ | with_reducible exact HBel.out | with_reducible refine Below.trans ?_ (Below.mono HBel.out (by (try simp) <;> omega))))⟩)
    · have hge : xs.length ≤ k := by rw [HL.out]; omega
      have hge' : n' ≤ k := by omega
      clear hlt
      go_wp2
      go_ret
      exact ⟨ret_bool (joinB_yes hge HA.out).symm, (by repeat (first | with_reducible exact Below.refl _ _ | with_reducible assumption | with_reducible refine Below.setCell ?_ (by (try simp) <;> omega) _ | with_reducible refine Below.alloc ?_ (by (try simp) <;> omega) _ | with_reducible refine Below.drew ?_ | with_reducible refine below_drewN ?_ _ | with_reducible exact HBel.out | with_reducible refine Below.trans ?_ (Below.mono HBel.out (by (try simp) <;> omega))))⟩
set_option maxRecDepth 20000 in
set_option maxHeartbeats 2000000 in
theorem sgroups_any (lo hi : Nat) (A : Option Addr) (n c : Nat) (ps : List Pr) (lo2 hi2 : Nat) (A' : Option Addr) (n' c' : Nat) (xs : List Int) (w : World) (hs : SlK 2 encPr w lo hi A n c ps) (hB : hi ≤ w.heap.size) (hx : SlK 1 encInt w lo2 hi2 A' n' c' xs) (hB2 : hi2 ≤ w.heap.size) :
    Calls Tryz.prog 73 #[.slice A n c, .slice A' n' c'] w fun e w' => ∃ v rows, e = .returned v ∧ GrpAt 29 3 w' w.heap.size v rows ∧ rowsL rows = grpR ps xs ∧ Below w.heap.size w w' := by
  have HU := hide (show groupsL (mutB ps) (kindsTo xs 4) = grpR ps xs from rfl)
  obtain ⟨mu, hmu⟩ : ∃ mu, mutB ps = mu := ⟨_, rfl⟩
  have HJ := hide (fun q A' n' c' (ys : List Int) W lo2 hi2 h1 h2 h3 h4 => joins_any q lo hi A n c ps lo2 hi2 A' n' c' ys W h1 h2 h3 h4)
  rw [hmu] at HU HJ
  have HS := hide hs
  have HX := hide hx
  have HK := hide (fun v W h => shas_any v lo2 hi2 A' n' c' xs W h)
  clear hs hx hmu
  go_enter Tryz.func73, Tryz.ntmps73
  go_wp2_with fail
  go_loopw [5, 6] (fun o i wr => ∃ (k : Nat) (rows : List IRow), k ≤ 4 ∧ i = .int .i64 k ∧ GrpAt 29 3 wr w.heap.size o rows ∧ rowsL rows = groupsL mu (kindsTo xs k) ∧ rows.length ≤ k ∧ Below w.heap.size w wr) (fun _ i _ => 4 - (intOf i).toNat)
  case atStart => exact ⟨0, [], Nat.zero_le _, rfl, GrpAt.nil_ _ _ _ _ _ (own_lit0 w 29 w.heap.size (Nat.le_refl _) rfl), rfl, Nat.le_refl _, (by repeat (first | with_reducible exact Below.refl _ _ | with_reducible assumption | with_reducible refine Below.setCell ?_ (by (try simp) <;> omega) _ | with_reducible refine Below.alloc ?_ (by (try simp) <;> omega) _ | with_reducible refine Below.drew ?_ | with_reducible refine below_drewN ?_ _))⟩
  case round =>
    obtain ⟨wo, hwo⟩ : ∃ wo : World, wo = wr := ⟨_, rfl⟩
    subst hwo
    obtain ⟨k, rows, hk, rfl, hG, hE, hl, hbel⟩ := hrel
    have HG := hide hG
    have HE := hide hE
    have HBel := hide hbel
    have y0 := hbel.size
    clear hG hE hbel
    by_cases hlt : k < 4
    · have i1 : (k : Int) < 4 := by omega
      have HX2 := hide (kindsTo_succ xs k)
      obtain ⟨t, ht⟩ : ∃ t, hasB xs k = t := ⟨_, rfl⟩
      rw [ht] at HX2
      have HT := hide ht
      have HKK := hide (HK.out k wo (HX.out.below HBel.out hB2))
      rw [ht] at HKK
      clear ht
      cases t
      · go_wp2_with (go_at_call 113; refine HKK.out.mono ?_; rintro e w1 ⟨rfl, rfl⟩)
        go_roundw
        case rel => exact ⟨k + 1, rows, by omega, by go_num, HG.out, by rw [HX2.out]; simpa using HE.out, by omega, HBel.out⟩
        case measure => simp [intOf]; omega
      · obtain ⟨nr, hnr⟩ : ∃ nr, rows.length = nr := ⟨_, rfl⟩
        have HN := hide hnr
        rw [hnr] at hl
        obtain ⟨AR, cR, e0, hR⟩ := HG.out.rowsAt
        rw [hnr] at e0 hR
        subst e0
        have HR := hide hR
        have hcR := hR.out.cap
        have hmR := hR.out.max
        clear hR hnr
        go_wp2_with (go_at_call 113; refine HKK.out.mono ?_; rintro e w1 ⟨rfl, rfl⟩)
        go_loopw [7, 8] (fun at_ i wr => ∃ (j : Nat) (z : Int), j ≤ nr ∧ i = .int .i64 z ∧ z + 1 ≤ j ∧ (j : Int) ≤ z + 1 ∧ at_ = .int .i64 (atFrom (fun y : IRow => joinB mu y.xs k) rows j) ∧ Below wo.heap.size wo wr) (fun _ i _ => (intOf i + 1).toNat)
        case atStart => exact ⟨nr, _, Nat.le_refl _, rfl, by omega, by omega, by rw [atFrom_all _ _ _ (by rw [HN.out]; exact Nat.le_refl _)], Below.refl _ _⟩
        case round =>
          obtain ⟨j, z, hj, rfl, hz1, hz2, rfl, hb⟩ := hrel
          have HB3 := hide hb
          have y3 := hb.size
          clear hb
          rcases Nat.eq_zero_or_pos j with h0 | h0
          · have hz : z < 0 := by omega
            have hz' : ¬ (0 ≤ z) := by omega
            obtain ⟨ix, hix⟩ : ∃ ix, idxOf (fun y : IRow => joinB mu y.xs k) rows = ix := ⟨_, rfl⟩
            have HAT := hide (show atFrom (fun y : IRow => joinB mu y.xs k) rows j = ix by rw [h0, atFrom_zero, hix])
            rw [HAT.out]
            have hcs := idxOf_cases (fun y : IRow => joinB mu y.xs k) rows
            rw [hix] at hcs
            have HIX := hide hix
            have G2 := hide (HG.out.below HB3.out)
            have L3 := hide (show Below w.heap.size w wr from HBel.out.trans (HB3.out.mono y0))
            clear hix HAT HG h0 hz1 hz2
            rcases hcs with rfl | ⟨i, hil, rfl⟩
            · have HNew := hide (grpL_new (r := ⟨some ⟨wr.heap.size, 0, none⟩, 1, 1, [(k : Int)]⟩) HE.out rfl HIX.out)
              have hnl : rows.length ≤ 4194304 := by rw [HN.out]; omega
              have G3 := hide (G2.out.alloc (.cells #[.int .i64 (k : Int)] 3))
              have HR1 := hide ((own_lit (base := w.heap.size) (w := wr) (by omega) [(k : Int)] 1 (#[.int .i64 (k : Int)]) 3 rfl (by simp [maxLen]) rfl))
              go_wp2_with (at_builtin; refine wpList_app rfl _ _ rfl rfl rfl (appRow (g := wr.heap.size + 1) (by simp) G3.out.out (by simp; omega) hnl ⟨some ⟨wr.heap.size, 0, none⟩, 1, 1, [(k : Int)]⟩ _ rfl) ?_; intro v' w3 ho3 hg3 hat3)
              go_roundw
              case rel =>
                refine ⟨k + 1, _, by omega, by go_num, GrpAt.push (g0 := wr.heap.size) (G3.out.alloc _) (HR1.out.alloc _) (by simp) rfl (fun y hy e => by have := ((G2.out.inn y hy).1.lt _ e).2; omega) (fun e => by have := (G2.out.lt _ e).2; omega) ho3 hg3 hat3,
                  by rw [HNew.out, HX2.out]; simp, by rw [List.length_append, HN.out]; simp; omega, ?_⟩
                exact ((L3.out.alloc (by omega) _).alloc (by simp; omega) _).grown hg3 (by simp; omega) (fun z hz => (G2.out.lt z hz).1)
              case measure => first | omega | (simp [intOf]; omega)
            · obtain ⟨r, hr⟩ : ∃ r, rows[i]? = some r := ⟨_, List.getElem?_eq_getElem hil⟩
              have HRI := hide hr
              obtain ⟨gv, cv, e0, hgv0, hgv1⟩ := own_at0 G2.out.out HN.out (by rw [← HN.out]; omega)
              injection e0 with e0 e1 e2
              subst e0 e2
              obtain ⟨AX, cX, e0, hR2⟩ := G2.out.rowsAt
              rw [HN.out] at e0 hR2
              injection e0 with e0 e1 e2
              subst e0 e2
              have hil2 : i < nr := by rw [← HN.out]; exact hil
              obtain ⟨b9, o9, r', hr', e0, _, _, d0, _⟩ := hR2.out.row hil2
              injection e0 with e0
              injection e0 with e0 e1
              subst e0 e1
              obtain rfl : r' = r := by rw [hr] at hr'; exact (Option.some.inj hr').symm
              obtain ⟨hri, hrn⟩ := G2.out.inn _ (List.mem_of_getElem? hr)
              obtain ⟨gr, hgr, hgr0, hgr1, hgr2, hgr3⟩ := own_some hri hrn
              have hgne : gr ≠ gv := fun e => G2.out.apart _ (List.mem_of_getElem? hr) (by rw [hgr, e]; rfl)
              have hR1 := HRI.out
              have HNew := fun (r2 : IRow) (h : r2.xs = r'.xs ++ [(k : Int)]) => grpL_old (r' := r2) HE.out h hR1 HIX.out
              have HNewH := hide HNew
              have hsum : r'.xs.length ≤ 4194304 := by
                have h1 := grp_row_len HE.out (List.mem_of_getElem? hr)
                have h2 := kindsTo_len xs k
                omega
              have HRO := hide hri
              have HRN := hide hrn
              have HGR := hide hgr
              obtain ⟨AZ, nx, cx, xr⟩ := r'
              subst hgr3
              have HNX := hide hgr2
              rw [Nat.zero_add] at d0
              clear hgr2
              have i5 : (i : Int) < (nr : Int) := by omega
              have i5' : ¬ ((i : Int) < 0) := by omega
              have i6 : gv < wr.heap.size := by omega
              have HRO4 := hide (HRO.out.alloc (.cells #[.int .i64 (k : Int)] 3))
              clear hr hr' hR2 hri hrn hgr HNew hR1
              have G4 := hide (G2.out.alloc (.cells #[.int .i64 (k : Int)] 3))
              go_wp2_with (at_builtin; refine wpList_app rfl _ _ rfl rfl rfl (appX (g := wr.heap.size) rfl HRO.out (by omega) hsum (k : Int)) ?_; intro v4 w4 ho4 hg4 hat4; obtain ⟨m4, hm4⟩ : ∃ m4, (xr ++ [(k : Int)]).length = m4 := ⟨_, rfl⟩; obtain ⟨A4, c4, rfl, s4'⟩ := Own.slk' encInt_len hm4 ho4; clear s4'; have HM4 := hide hm4; clear hm4; have HG4 := hide hg4; have HAT := hide hat4; have HO4 := hide ho4; have z4 : wr.heap.size + 1 ≤ w4.heap.size := (by have := hg4.size; simpa using this); have HV4 := hide (G4.out.out.grown hg4 (.inr (fun e => hgne (Option.some.inj e).symm))); obtain ⟨A9, c9, e9, s9⟩ := Own.slk' encRow_len HN.out HV4.out; injection e9 with e9 e10 e11; subst e9 e11; obtain ⟨b9, o9, r9, hr9, e9, _, _, d9, f9⟩ := s9.row hil2; injection e9 with e9; injection e9 with e9 e10; subst e9 e10; rw [HRI.out] at hr9; obtain rfl := Option.some.inj hr9; rw [Nat.zero_add] at d9 f9; have i8 : gv < w4.heap.size := (by omega); clear hg4 hat4 ho4 s9 hr9 d0)
              go_roundw
              case rel =>
                refine ⟨k + 1, _, by omega, by go_num, GrpAt.put (r' := ⟨A4, m4, c4, xr ++ [(k : Int)]⟩) G4.out HRI.out HO4.out (by simp) HG4.out HAT.out, by rw [HNewH.out _ rfl, HX2.out]; simp, by rw [List.length_set, HN.out]; omega, ?_⟩
                exact ((L3.out.alloc (by omega) _).grown HG4.out (by simp; omega) (fun z hz => by have e2 : gr = z := Option.some.inj hz; omega)).setCell (p := ⟨gv, i, none⟩) (by show w.heap.size ≤ gv; omega) _
              case measure => first | omega | (simp [intOf]; omega)
          · obtain ⟨q, rfl⟩ : ∃ q : Nat, j = q + 1 := ⟨j - 1, by omega⟩
            obtain rfl : z = (q : Int) := by omega
            have hqn : q < nr := by omega
            obtain ⟨b0, off, x, hx, rfl, _, hb, c0, _⟩ := (HR.out.out.below HB3.out (Nat.le_refl _)).row hqn
            have HXI := hide ((HR.out.inn x (List.mem_of_getElem? hx)).below HB3.out (Nat.le_refl _))
            have HST := hide (atFrom_step (p := fun y : IRow => joinB mu y.xs k) hx)
            obtain ⟨t, ht⟩ : ∃ t, joinB mu x.xs k = t := ⟨_, rfl⟩
            rw [ht] at HST
            have HJC := hide (HJ.out k x.A x.n x.c x.xs wr _ _ (HS.out.below (HBel.out.trans (HB3.out.mono y0)) hB) (by omega) HXI.out (by omega))
            rw [ht] at HJC
            clear ht hx
            have q0 : (0 : Int) ≤ (q : Int) := by omega
            have q1 : (q : Int) < (nr : Int) := by omega
            cases t
            · go_wp2_with (go_at_call 114; refine HJC.out.mono ?_; rintro e w1 ⟨rfl, hb1⟩)
              go_roundw
              case rel => exact ⟨q, _, by omega, rfl, by omega, by omega, by simp only [HST.out, Bool.false_eq_true, if_false, if_true], HB3.out.trans (hb1.mono y3)⟩
              case measure => first | omega | (simp [intOf]; done) | (simp [intOf]; omega)
            · go_wp2_with (go_at_call 114; refine HJC.out.mono ?_; rintro e w1 ⟨rfl, hb1⟩)
              go_roundw
              case rel => exact ⟨q, _, by omega, rfl, by omega, by omega, by simp only [HST.out, Bool.false_eq_true, if_false, if_true], HB3.out.trans (hb1.mono y3)⟩
              case measure => first | omega | (simp [intOf]; done) | (simp [intOf]; omega)
    · obtain rfl : k = 4 := by omega
      clear hlt
      have HE2 := hide (show rowsL rows = grpR ps xs by rw [HE.out, HU.out])
      go_wp2
      go_ret
      exact ⟨_, _, rfl, HG.out, HE2.out, HBel.out⟩
end Go.Proofs.YtehgdhekiogppaaGreat
