/- The laws' marks on an order that is the call's own: what they leave as it was. -/
import Derived.Test.YtcjcmdikopipjaaDoorMko
namespace Go.Proofs.YtcjcmdikopipjaaDoor
open Go.ChangeShapes Go.WideShapes Go.ChangeAt Go.RowKit Go.Deep
set_option linter.unusedVariables false
set_option linter.unusedSimpArgs false

theorem RqOwn.atS {w : World} {base : Nat} {r : Rq} {A1 A2 A3 : Option Addr} {n1 n2 n3 c1 c2 c3 : Nat} (h : RqOwn w base r (.slice A1 n1 c1) (.slice A2 n2 c2) (.slice A3 n3 c3)) : RqAt w base w.heap.size r A1 n1 c1 A2 n2 c2 A3 n3 c3 := by
  obtain ⟨B1, d1, B2, d2, B3, d3, e1, e2, e3, ha⟩ := h.rqAt
  injection e1 with a1 a2 a3
  injection e2 with b1 b2 b3
  injection e3 with f1 f2 f3
  subst a1 a3 b1 b3 f1 f3
  rw [a2, b2, f2]
  exact ha
set_option maxRecDepth 20000 in
set_option maxHeartbeats 1000000 in
theorem markRequest_keep (r : Rq) (v1 v2 v3 : Value) (base : Nat) (w : World) (h : RqOwn w base r v1 v2 v3) (hB : base ≤ w.heap.size) (hn : r.pairs.length + r.types.length + r.items.length ≤ 1048576) :
    Calls Tryd.prog 31 #[.agg #[.int .i64 r.way, .int .i64 r.pal.w, .int .i64 r.pal.d, .int .i64 r.pal.h, .int .i64 r.pal.gram, .int .i64 r.cls, v1, v2, .int .i64 r.master, v3], .int .i64 1] w fun e w' => e = .returned (.int .i64 (1 + 2 * r.pairs.length + 7 * r.types.length + 7 * r.items.length)) ∧ RqOwn w' base (mkRq r) v1 v2 v3 ∧ Below base w w' ∧ (∀ (g : Nat) (T : TypeId) (cs : Array Value), Blk w g T cs → v1.ownBlock ≠ some g → v2.ownBlock ≠ some g → v3.ownBlock ≠ some g → Blk w' g T cs) := by
  have H0 := hide (h.alloc (.cells #[.int .i64 r.way, .int .i64 r.pal.w, .int .i64 r.pal.d, .int .i64 r.pal.h, .int .i64 r.pal.gram, .int .i64 r.cls, v1, v2, .int .i64 r.master, v3] 41))
  have P0 := hide (Blk.new w 41 #[.int .i64 r.way, .int .i64 r.pal.w, .int .i64 r.pal.d, .int .i64 r.pal.h, .int .i64 r.pal.gram, .int .i64 r.cls, v1, v2, .int .i64 r.master, v3] (g := w.heap.size) rfl)
  have L0 := hide ((Below.refl base w).alloc hB (.cells #[.int .i64 r.way, .int .i64 r.pal.w, .int .i64 r.pal.d, .int .i64 r.pal.h, .int .i64 r.pal.gram, .int .i64 r.cls, v1, v2, .int .i64 r.master, v3] 41))
  have q1 := hide (fun z hz => (h.pr.lt z hz))
  have q2 := hide (fun z hz => (h.ty.lt z hz))
  have q3 := hide (fun z hz => (h.it.lt z hz))
  have zz : w.heap.size + 1 = (w.alloc (.cells #[.int .i64 r.way, .int .i64 r.pal.w, .int .i64 r.pal.d, .int .i64 r.pal.h, .int .i64 r.pal.gram, .int .i64 r.cls, v1, v2, .int .i64 r.master, v3] 41)).heap.size := by simp
  have HR := hide (show mkRq r = { r with pairs := mkPr 1 r.pairs.length, types := mkTy (1 + 2 * (r.pairs.length : Int)) r.types.length, items := mkIt (1 + 2 * (r.pairs.length : Int) + 7 * (r.types.length : Int)) r.items.length } from rfl)
  have KP0 := hide (fun (g : Nat) (T : TypeId) (cs : Array Value) (hg : Blk w g T cs) => hg.alloc (.cells #[.int .i64 r.way, .int .i64 r.pal.w, .int .i64 r.pal.d, .int .i64 r.pal.h, .int .i64 r.pal.gram, .int .i64 r.cls, v1, v2, .int .i64 r.master, v3] 41))
  have D12 := hide h.d12
  have D13 := hide h.d13
  have D23 := hide h.d23
  have kR := P0.out.cell
  have yR := P0.out.lt
  clear h
  obtain ⟨w0, hw0⟩ : ∃ w0, w.alloc (.cells #[.int .i64 r.way, .int .i64 r.pal.w, .int .i64 r.pal.d, .int .i64 r.pal.h, .int .i64 r.pal.gram, .int .i64 r.cls, v1, v2, .int .i64 r.master, v3] 41) = w0 := ⟨_, rfl⟩
  have HW0 := hide hw0
  rw [hw0] at H0 P0 L0 zz kR yR KP0
  clear hw0
  go_enter Tryd.func31, Tryd.ntmps31
  go_wp2_with fail
  rw [HW0.out]
  refine (markPairS_own 1 base v1 r.pairs w0 H0.out.pr (by omega) (by omega) (by omega)).mono ?_
  rintro e w1 ⟨rfl, ho1, hg1⟩
  have z1 := hg1.size
  have L1 := hide (L0.out.grown hg1 (by omega) (fun z hz => (q1.out z hz).1))
  have P1 := hide (P0.out.grown hg1 (fun e => by have := q1.out _ e.symm; omega))
  have HO1 := hide ho1
  have HT1 := hide (own_away H0.out.ty hg1 fun z hz e => D12.out z e hz)
  have HI1 := hide (own_away H0.out.it hg1 fun z hz e => D13.out z e hz)
  have KP1 := hide (fun (g : Nat) (T : TypeId) (cs : Array Value) (hg : Blk w g T cs) (h1 : v1.ownBlock ≠ some g) => (KP0.out g T cs hg).grown hg1 (fun e => h1 e.symm))
  clear kR yR ho1 hg1
  have kR := P1.out.cell
  have yR := P1.out.lt
  go_wp2_with fail
  refine (markTypeS_own (1 + 2 * r.pairs.length) base v2 r.types w1 HT1.out (by omega) (by omega) (by omega)).mono ?_
  rintro e w2 ⟨rfl, ho2, hg2⟩
  have z2 := hg2.size
  have L2 := hide (L1.out.grown hg2 (by omega) (fun z hz => (q2.out z hz).1))
  have P2 := hide (P1.out.grown hg2 (fun e => by have := q2.out _ e.symm; omega))
  have HO2 := hide (own_away HO1.out hg2 fun z hz e => D12.out z hz e)
  have HT2 := hide ho2
  have HI2 := hide (own_away HI1.out hg2 fun z hz e => D23.out z e hz)
  have KP2 := hide (fun (g : Nat) (T : TypeId) (cs : Array Value) (hg : Blk w g T cs) (h1 : v1.ownBlock ≠ some g) (h2 : v2.ownBlock ≠ some g) => (KP1.out g T cs hg h1).grown hg2 (fun e => h2 e.symm))
  clear kR yR ho2 hg2
  have kR := P2.out.cell
  have yR := P2.out.lt
  go_wp2_with fail
  refine (markItemS_own (1 + 2 * r.pairs.length + 7 * r.types.length) base v3 r.items w2 HI2.out (by omega) (by omega) (by omega)).mono ?_
  rintro e w3 ⟨rfl, ho3, hg3⟩
  have L3 := hide (L2.out.grown hg3 (by omega) (fun z hz => (q3.out z hz).1))
  have HO3 := hide (own_away HO2.out hg3 fun z hz e => D13.out z hz e)
  have HT3 := hide (own_away HT2.out hg3 fun z hz e => D23.out z hz e)
  have HI3 := hide ho3
  have KP3 := hide (fun (g : Nat) (T : TypeId) (cs : Array Value) (hg : Blk w g T cs) (h1 : v1.ownBlock ≠ some g) (h2 : v2.ownBlock ≠ some g) (h3 : v3.ownBlock ≠ some g) => (KP2.out g T cs hg h1 h2).grown hg3 (fun e => h3 e.symm))
  clear kR yR ho3 hg3
  go_wp2_with fail
  go_ret
  refine ⟨rfl, ?_, L3.out, KP3.out⟩
  rw [HR.out]
  exact ⟨HO3.out, HT3.out, HI3.out, D12.out, D13.out, D23.out⟩
end Go.Proofs.YtcjcmdikopipjaaDoor
