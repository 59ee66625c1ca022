/- DrawBoundsOk: an order, right or bent. -/
import Derived.Test.YtojmkkcjjlppiaaDw
namespace Go.Proofs.Ytojmkkcjjlppiaa
open Go.ChangeShapes Go.WideShapes Go.ChangeAt Go.RowKit Go.Deep
set_option linter.unusedVariables false
set_option linter.unusedSimpArgs false

set_option maxRecDepth 20000 in
set_option maxHeartbeats 2000000 in
theorem drawBoundsOk_any (A : Option Addr) (n c : Nat) (bs : List Int) (w : World) (hs : SlK 1 encByte w 0 w.heap.size A n c bs) (hb : ∀ b ∈ bs, 0 ≤ b ∧ b ≤ 255) :
    Calls Try.prog 23 #[.slice A n c] w fun e w' => (∃ (r : Rq) (A1 : Option Addr) (n1 c1 : Nat) (A2 : Option Addr) (n2 c2 : Nat) (A3 : Option Addr) (n3 c3 : Nat), e = .returned (.agg #[.int .i64 r.way, .int .i64 r.pal.w, .int .i64 r.pal.d, .int .i64 r.pal.h, .int .i64 r.pal.gram, .int .i64 r.cls, .slice A1 n1 c1, .slice A2 n2 c2, .int .i64 r.master, .slice A3 n3 c3]) ∧ RqAt w' w.heap.size w'.heap.size r A1 n1 c1 A2 n2 c2 A3 n3 c3 ∧ n1 ≤ 33 ∧ n2 ≤ 6 ∧ n3 ≤ 6) ∧ Below w.heap.size w w' := by
  have hs2 := (hs.alloc (Nat.le_refl _) (.cells rqZero 43)).more (Nat.le_refl 0) (show w.heap.size ≤ (w.alloc (.cells rqZero 43)).heap.size by simp)
  go_enter Try.func23, Try.ntmps23
  go_wp2_with fail
  refine (l1New_any A n c bs _ hs2 hb).mono ?_
  rintro e w1 ⟨rfl, hc1, hb1⟩
  have hgl := hc1.lt
  have Z1 := hide (Blk.belowH (Blk.new w 43 rqZero rfl) hb1)
  have L1 := hide (show Below w.heap.size w w1 from (by repeat (first | with_reducible exact Below.refl _ _ | with_reducible assumption | with_reducible refine Below.setCell ?_ (by (try simp) <;> omega) _ | with_reducible refine Below.alloc ?_ (by (try simp) <;> omega) _ | with_reducible refine Below.drew ?_ | with_reducible refine below_drewN ?_ _ | with_reducible exact hb1 | with_reducible refine Below.trans ?_ (Below.mono hb1 (by (try simp) <;> omega)))))
  simp only [World.size_alloc] at hc1 hgl
  clear hb1 hs hs2
  go_wp2_with fail
  refine (l2Draw_any _ A n c bs _ hc1).mono ?_
  rintro e w2 ⟨⟨r, A1, n1, c1, A2, n2, c2, A3, n3, c3, rfl, hr, hn1, hn2, hn3⟩, hc2, hg2⟩
  have z2 := hg2.size
  have Z2 := hide (Z1.out.grown hg2 (fun e => by have e2 : w.heap.size = w.heap.size + 1 := Option.some.inj e; omega))
  have HR := hide hr
  have L2 := hide (L1.out.grown hg2 (by omega) (fun x hx => by have hx2 : w.heap.size + 1 = x := Option.some.inj hx; omega))
  have kZ := Z2.out.cell
  have fZ := Z2.out.frozen
  unfold rqZero at kZ
  have yZ := Z2.out.lt
  clear hr hc1 hc2 hg2
  go_wp2_with fail
  have hz10 := Z2.out
  unfold rqZero at hz10
  obtain ⟨hB10, hg10⟩ := st10 hz10 (.int .i64 r.way) (.int .i64 r.pal.w) (.int .i64 r.pal.d) (.int .i64 r.pal.h) (.int .i64 r.pal.gram) (.int .i64 r.cls) (.slice A1 n1 c1) (.slice A2 n2 c2) (.int .i64 r.master) (.slice A3 n3 c3)
  refine ret_cell Try.results23 rfl hB10 Try.underlying43 rfl (by kernel_rfl) rfl ?_
  refine ⟨⟨r, A1, n1, c1, A2, n2, c2, A3, n3, c3, rfl, ⟨slk_fin (HR.out.pr.more (by omega) (Nat.le_refl _)) hg10, slk_fin (HR.out.ty.more (by omega) (Nat.le_refl _)) hg10, slk_fin (HR.out.it.more (by omega) (Nat.le_refl _)) hg10⟩, hn1, hn2, hn3⟩, L2.out.grown hg10 (by omega) (fun x hx => by have hx2 : w.heap.size = x := Option.some.inj hx; omega)⟩
end Go.Proofs.Ytojmkkcjjlppiaa
