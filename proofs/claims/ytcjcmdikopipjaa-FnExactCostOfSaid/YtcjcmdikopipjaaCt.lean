/- A carton by value: how it is opened, copied, compared. -/
import Derived.Test.YtcjcmdikopipjaaRw
import Derived.Test.YtcjcmdikopipjaaS1
namespace Go.Proofs.Ytcjcmdikopipjaa
open Go.ChangeShapes Go.WideShapes Go.ChangeAt Go.RowKit Go.Deep
set_option linter.unusedVariables false
set_option linter.unusedSimpArgs false

structure Ct where
  ty : Int
  gr : Int
  us : List Int
theorem open_ct {H : Type} {enc : TypeId × Value → H} {P : Program} {W : World} {t ts e : TypeId} {r : Reach} {b0 : Nat} {f0 f1 f2 : Field} {v : Value} {d : DataW H} {p : List MemPlace} (hs : P.underlying t = some (.struct #[f0, f1, f2])) (hC : P.cellsOf t = 3)
    (ho : f0.offset = 0 ∧ f1.offset = 1 ∧ f2.offset = 2) (hty : f2.type = ts) (hi : ∀ f ∈ [f0, f1], P.underlying f.type = some (.int .i64) ∧ P.cellsOf f.type = 1)
    (h1 : P.underlying ts = some (.slice e) ∧ P.underlying e = some (.int .i64) ∧ P.cellsOf e = 1 ∧ P.cellsOf ts = 1)
    (hv : Value.okWide P W r b0 t v) (h : DataW.Trod enc P W 0 (fun _ => true) true t v d p) (hfz : W.noneFrozen p) :
    ∃ x : Ct, ∃ A n c, v = .agg #[.int .i64 x.ty, .int .i64 x.gr, .slice A n c] ∧ SlK 1 encInt W 0 W.heap.size A n c x.us := by
  obtain ⟨cs, rfl, hsz⟩ := okWide_struct hs hv
  obtain ⟨l⟩ := cs
  obtain ⟨fuel, hf⟩ := h
  obtain ⟨xs, n, _, hx, hl, hlen, hg⟩ := DataW.trod_struct hs hf
  obtain ⟨o0, o1, o2⟩ := ho
  simp only [Value.cells] at hl hg
  rw [hC] at hl
  simp only [Prod.mk.injEq] at hx
  match l, hl, xs, hlen with
  | [c0, c1, c2], _, [x0, x1, x2], _ =>
    have g0 := hg 0 f0 rfl
    have g1 := hg 1 f1 rfl
    have g2 := hg 2 f2 rfl
    obtain ⟨u0, k0⟩ := hi f0 (by simp)
    obtain ⟨u1, k1⟩ := hi f1 (by simp)
    rw [o0, k0] at g0
    rw [o1, k1] at g1
    rw [o2, hty, h1.2.2.2] at g2
    have hsub : ∀ z ∈ [x0, x1, x2], W.noneFrozen z.2 := fun z hz b off hin => hfz b off (by rw [hx.2, List.mem_flatMap]; exact ⟨z, hz, hin⟩)
    obtain ⟨z0, e0, _, _⟩ := DataW.trod_int u0 g0
    obtain ⟨z1, e1, _, _⟩ := DataW.trod_int u1 g1
    obtain ⟨A1, n1, c1', us, e2, s2⟩ := open_is h1.1 h1.2.1 h1.2.2.1 g2 (hsub x2 (by simp))
    simp at e0 e1
    subst e0 e1 e2
    exact ⟨⟨z0, z1, us⟩, A1, n1, c1', rfl, s2⟩
theorem cCt : Try.prog.cellsOf 70 = 3 := by kernel_rfl
theorem cIntS : Try.prog.cellsOf 29 = 1 := by kernel_rfl
set_option maxRecDepth 100000 in
theorem openCt {H : Type} {enc : TypeId × Value → H} {W : World} {rr : Reach} {b0 : Nat} {v : Value} {d : DataW H} {p : List MemPlace}
    (hv : Value.okWide Try.prog W rr b0 70 v) (h : DataW.Trod enc Try.prog W 0 (fun _ => true) true 70 v d p) (hfz : W.noneFrozen p) :
    ∃ x : Ct, ∃ A n c, v = .agg #[.int .i64 x.ty, .int .i64 x.gr, .slice A n c] ∧ SlK 1 encInt W 0 W.heap.size A n c x.us :=
  open_ct Try.underlying70 cCt ⟨rfl, rfl, rfl⟩ rfl (by intro f hf; simp only [List.mem_cons, List.not_mem_nil, or_false] at hf; rcases hf with rfl | rfl <;> exact ⟨Try.underlying3, cInt⟩)
    ⟨Try.underlying29, Try.underlying3, cInt, cIntS⟩ hv h hfz
theorem szCarton_ok (x : Ct) (A : Option Addr) (n c : Nat) (left : Int) (w : World) (h1 : (n : Int) ≤ left) (h2 : left ≤ 1048576) (hc : n ≤ c) (hm : c ≤ 9223372036854775807) :
    Calls Try.prog 40 #[.agg #[.int .i64 x.ty, .int .i64 x.gr, .slice A n c], .int .i64 left] w fun e w' => e = .returned (.int .i64 (left - n)) ∧ Below w.heap.size w w' := by
  have e1 : ¬ (left - n < 0) := by omega
  go_enter Try.func40, Try.ntmps40
  go_wp2_with (go_at_call 59; refine (szIntS_ok _ _ _ _ _ h1 h2 hc hm).mono ?_; rintro e w1 ⟨rfl, rfl⟩)
  go_ret
  exact ⟨rfl, (by repeat (first | with_reducible exact Below.refl _ _ | with_reducible assumption | with_reducible refine Below.setCell ?_ (by (try simp) <;> omega) _ | with_reducible refine Below.alloc ?_ (by (try simp) <;> omega) _ | with_reducible refine Below.drew ?_ | with_reducible refine below_drewN ?_ _))⟩
theorem szCarton_no (x : Ct) (A : Option Addr) (n c : Nat) (left : Int) (w : World) (h1 : left < (n : Int)) (h0 : 0 ≤ left) (h2 : left ≤ 1048576) (hc : n ≤ c) (hm : c ≤ 9223372036854775807) :
    Calls Try.prog 40 #[.agg #[.int .i64 x.ty, .int .i64 x.gr, .slice A n c], .int .i64 left] w fun e w' => e = .returned (.int .i64 (-1)) ∧ Below w.heap.size w w' := by
  go_enter Try.func40, Try.ntmps40
  go_wp2_with (go_at_call 59; refine (szIntS_no _ _ _ _ _ h1 h0 h2 hc hm).mono ?_; rintro e w1 ⟨rfl, rfl⟩)
  go_ret
  exact ⟨rfl, (by repeat (first | with_reducible exact Below.refl _ _ | with_reducible assumption | with_reducible refine Below.setCell ?_ (by (try simp) <;> omega) _ | with_reducible refine Below.alloc ?_ (by (try simp) <;> omega) _ | with_reducible refine Below.drew ?_ | with_reducible refine below_drewN ?_ _))⟩
set_option maxHeartbeats 800000 in
theorem toCarton_any (x : Ct) (lo hi : Nat) (A : Option Addr) (n c : Nat) (w : World) (hs : SlK 1 encInt w lo hi A n c x.us) (hB : hi ≤ w.heap.size) (hn : n ≤ 1048576) :
    Calls Try.prog 47 #[.agg #[.int .i64 x.ty, .int .i64 x.gr, .slice A n c]] w fun e w' => ∃ A', e = .returned (.agg #[.int .i64 x.ty, .int .i64 x.gr, .slice A' n n]) ∧ SlK 1 encInt w' w.heap.size w'.heap.size A' n n x.us ∧ Below w.heap.size w w' := by
  go_enter Try.func47, Try.ntmps47
  go_wp2_with fail
  refine (toIntS_any lo hi A n c x.us _ (hs.below (B := w.heap.size) (by repeat (first | with_reducible exact Below.refl _ _ | with_reducible assumption | with_reducible refine Below.setCell ?_ (by (try simp) <;> omega) _ | with_reducible refine Below.alloc ?_ (by (try simp) <;> omega) _ | with_reducible refine Below.drew ?_ | with_reducible refine below_drewN ?_ _)) hB) (by (try simp) <;> omega) hn).mono ?_
  rintro e w1 ⟨A', rfl, ha, hb1⟩
  simp only [World.size_alloc] at ha
  have HA := hide ha
  have L1 := hide (show Below w.heap.size w w1 from (by repeat (first | with_reducible exact Below.refl _ _ | with_reducible assumption | with_reducible refine Below.setCell ?_ (by (try simp) <;> omega) _ | with_reducible refine Below.alloc ?_ (by (try simp) <;> omega) _ | with_reducible refine Below.drew ?_ | with_reducible refine below_drewN ?_ _ | with_reducible exact hb1 | with_reducible refine Below.trans ?_ (Below.mono hb1 (by (try simp) <;> omega)))))
  have P1 := hide (Blk.belowH ((Blk.new (w.alloc (.cells #[.int .i64 x.ty, .int .i64 x.gr, .slice A n c] 70)) 76 #[.int .i64 0, .int .i64 0, .slice none 0 0] (g := w.heap.size + 1) (by simp)).alloc _) hb1)
  have P2 := hide (Blk.belowH (Blk.new ((w.alloc (.cells #[.int .i64 x.ty, .int .i64 x.gr, .slice A n c] 70)).alloc _) 76 #[.int .i64 x.ty, .int .i64 x.gr, .slice none 0 0] (g := w.heap.size + 1 + 1) (by simp)) hb1)
  clear hb1 ha
  have k1 := P1.out.cell
  have f1 := P1.out.frozen
  have k2 := P2.out.cell
  have f2 := P2.out.frozen
  have y2 := P2.out.lt
  have y1 := P1.out.lt
  have ne1 : w.heap.size + 1 ≠ w.heap.size + 1 + 1 := by omega
  go_wp2
  have PF := ((((P1.out.far (p := ⟨w.heap.size + 1 + 1, 2, none⟩) ne1 (.slice A' n n)).set_ 0 (.int .i64 x.ty)).set_ 1 (.int .i64 x.gr)).set_ 2 (.slice A' n n))
  simp only [List.setIfInBounds_toArray, List.set_cons_zero, List.set_cons_succ] at PF
  refine ret_cell Try.results47 rfl PF Try.underlying76 rfl (by kernel_rfl) rfl ?_
  refine ⟨A', rfl, SlK.more (lo := w.heap.size + 1 + 1 + 1) (hi := w1.heap.size) ?_ (by omega) (by (try simp) <;> omega), (by repeat (first | with_reducible exact Below.refl _ _ | with_reducible assumption | with_reducible refine Below.setCell ?_ (by (try simp) <;> omega) _ | with_reducible refine Below.alloc ?_ (by (try simp) <;> omega) _ | with_reducible refine Below.drew ?_ | with_reducible refine below_drewN ?_ _ | with_reducible exact L1.out | with_reducible refine Below.trans ?_ (Below.mono L1.out (by (try simp) <;> omega))))⟩
  repeat (first | with_reducible exact HA.out | with_reducible refine SlK.setCell ?_ (.inl (by show _ + _ < _; omega)) _)
set_option maxHeartbeats 800000 in
theorem eqCarton_any (x : Ct) (lo hi lo' hi' : Nat) (A A' : Option Addr) (n c c' : Nat) (w : World) (hs : SlK 1 encInt w lo hi A n c x.us) (hB : hi ≤ w.heap.size) (hs' : SlK 1 encInt w lo' hi' A' n c' x.us) (hB' : hi' ≤ w.heap.size) :
    Calls Try.prog 54 #[.agg #[.int .i64 x.ty, .int .i64 x.gr, .slice A n c], .agg #[.int .i64 x.ty, .int .i64 x.gr, .slice A' n c']] w fun e w' => e = .returned (.bool true) ∧ Below w.heap.size w w' := by
  go_enter Try.func54, Try.ntmps54
  go_wp2_with fail
  refine (eqIntS_any lo hi lo' hi' A A' n c c' x.us _ (hs.below (B := w.heap.size) (by repeat (first | with_reducible exact Below.refl _ _ | with_reducible assumption | with_reducible refine Below.setCell ?_ (by (try simp) <;> omega) _ | with_reducible refine Below.alloc ?_ (by (try simp) <;> omega) _ | with_reducible refine Below.drew ?_ | with_reducible refine below_drewN ?_ _)) hB) (by (try simp) <;> omega) (hs'.below (B := w.heap.size) (by repeat (first | with_reducible exact Below.refl _ _ | with_reducible assumption | with_reducible refine Below.setCell ?_ (by (try simp) <;> omega) _ | with_reducible refine Below.alloc ?_ (by (try simp) <;> omega) _ | with_reducible refine Below.drew ?_ | with_reducible refine below_drewN ?_ _)) hB') (by (try simp) <;> omega)).mono ?_
  rintro e w1 ⟨rfl, hb1⟩
  go_wp2
  go_ret
  exact ⟨rfl, (by repeat (first | with_reducible exact Below.refl _ _ | with_reducible assumption | with_reducible refine Below.setCell ?_ (by (try simp) <;> omega) _ | with_reducible refine Below.alloc ?_ (by (try simp) <;> omega) _ | with_reducible refine Below.drew ?_ | with_reducible refine below_drewN ?_ _ | with_reducible exact hb1 | with_reducible refine Below.trans ?_ (Below.mono hb1 (by (try simp) <;> omega))))⟩
end Go.Proofs.Ytcjcmdikopipjaa
