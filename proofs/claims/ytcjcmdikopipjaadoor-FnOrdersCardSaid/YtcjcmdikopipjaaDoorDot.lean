/- The draw of an order for its text; a byte of a code. -/
import Derived.Test.YtcjcmdikopipjaaDoorDw
import Derived.Test.YtcjcmdikopipjaaDoorDk
namespace Go.Proofs.YtcjcmdikopipjaaDoor
open Go.ChangeShapes Go.WideShapes Go.ChangeAt Go.RowKit Go.Deep
set_option linter.unusedVariables false
set_option linter.unusedSimpArgs false

set_option maxRecDepth 20000 in
set_option maxHeartbeats 2000000 in
theorem drawOrderText_any (A : Option Addr) (n c : Nat) (bs : List Int) (w : World) (hs : SlK 1 encByte w 0 w.heap.size A n c bs) (hb : ∀ b ∈ bs, 0 ≤ b ∧ b ≤ 255) :
    Calls Tryd.prog 26 #[.slice A n c] w fun e w' => (∃ (r : Rq) (A1 : Option Addr) (n1 c1 : Nat) (A2 : Option Addr) (n2 c2 : Nat) (A3 : Option Addr) (n3 c3 : Nat), e = .returned (.agg #[.int .i64 r.way, .int .i64 r.pal.w, .int .i64 r.pal.d, .int .i64 r.pal.h, .int .i64 r.pal.gram, .int .i64 r.cls, .slice A1 n1 c1, .slice A2 n2 c2, .int .i64 r.master, .slice A3 n3 c3]) ∧ RqAt w' w.heap.size w'.heap.size r A1 n1 c1 A2 n2 c2 A3 n3 c3 ∧ n1 ≤ 33 ∧ n2 ≤ 6 ∧ n3 ≤ 6) ∧ Below w.heap.size w w' := by
  have hs2 := (hs.alloc (Nat.le_refl _) (.cells rqZero 41)).more (Nat.le_refl 0) (show w.heap.size ≤ (w.alloc (.cells rqZero 41)).heap.size by simp)
  go_enter Tryd.func26, Tryd.ntmps26
  go_wp2_with fail
  refine (l1New_any A n c bs _ hs2 hb).mono ?_
  rintro e w1 ⟨rfl, hc1, hb1⟩
  have hgl := hc1.lt
  have Z1 := hide (Blk.belowH (Blk.new w 41 rqZero rfl) hb1)
  have L1 := hide (show Below w.heap.size w w1 from (by repeat (first | with_reducible exact Below.refl _ _ | with_reducible assumption | with_reducible refine Below.setCell ?_ (by (try simp) <;> omega) _ | with_reducible refine Below.alloc ?_ (by (try simp) <;> omega) _ | with_reducible refine Below.drew ?_ | with_reducible refine below_drewN ?_ _ | with_reducible exact hb1 | with_reducible refine Below.trans ?_ (Below.mono hb1 (by (try simp) <;> omega)))))
  simp only [World.size_alloc] at hc1 hgl
  clear hb1 hs hs2
  go_wp2_with fail
  refine (l2Draw_any _ A n c bs _ hc1).mono ?_
  rintro e w2 ⟨⟨r, A1, n1, c1, A2, n2, c2, A3, n3, c3, rfl, hr, hn1, hn2, hn3⟩, hc2, hg2⟩
  have z2 := hg2.size
  have Z2 := hide (Z1.out.grown hg2 (fun e => by have e2 : w.heap.size = w.heap.size + 1 := Option.some.inj e; omega))
  have HR := hide hr
  have L2 := hide (L1.out.grown hg2 (by omega) (fun x hx => by have hx2 : w.heap.size + 1 = x := Option.some.inj hx; omega))
  have kZ := Z2.out.cell
  have fZ := Z2.out.frozen
  unfold rqZero at kZ
  have yZ := Z2.out.lt
  clear hr hc1 hc2 hg2
  go_wp2_with fail
  have hz10 := Z2.out
  unfold rqZero at hz10
  obtain ⟨hB10, hg10⟩ := st10 hz10 (.int .i64 r.way) (.int .i64 r.pal.w) (.int .i64 r.pal.d) (.int .i64 r.pal.h) (.int .i64 r.pal.gram) (.int .i64 r.cls) (.slice A1 n1 c1) (.slice A2 n2 c2) (.int .i64 r.master) (.slice A3 n3 c3)
  refine ret_cell Tryd.results26 rfl hB10 Tryd.underlying41 rfl (by kernel_rfl) rfl ?_
  refine ⟨⟨r, A1, n1, c1, A2, n2, c2, A3, n3, c3, rfl, ⟨slk_fin (HR.out.pr.more (by omega) (Nat.le_refl _)) hg10, slk_fin (HR.out.ty.more (by omega) (Nat.le_refl _)) hg10, slk_fin (HR.out.it.more (by omega) (Nat.le_refl _)) hg10⟩, hn1, hn2, hn3⟩, L2.out.grown hg10 (by omega) (fun x hx => by have hx2 : w.heap.size = x := Option.some.inj hx; omega)⟩
theorem at0_any (A : Option Addr) (n c : Nat) (bs : List Int) (i : Nat) (lo hi : Nat) (w : World) (hs : SlK 1 encByte w lo hi A n c bs) (hb : ∀ b ∈ bs, 0 ≤ b ∧ b ≤ 255) (hi2 : i ≤ 100) (hn : n ≤ 1048576) :
    Calls Tryd.prog 27 #[.slice A n c, .int .i64 i] w fun e w' => (∃ x : Int, e = .returned (.int .i64 x) ∧ 0 ≤ x ∧ x ≤ 255) ∧ w = w' := by
  have hc := hs.cap
  have hm := hs.max
  have i0 : (0 : Int) ≤ (i : Int) := by omega
  by_cases hlt : i < n
  · obtain ⟨b, off, x, hx, rfl, _, hb2, c0, _⟩ := hs.byte hlt
    have hxb := hb x (List.mem_of_getElem? hx)
    have h0 := hxb.1
    have h1 := hxb.2
    have i1 : (i : Int) < (n : Int) := by omega
    clear hs hx hb
    go_enter Tryd.func27, Tryd.ntmps27
    go_wp2_with fail
    go_ret
    exact ⟨⟨x, by first | rfl | (congr 2; omega) | (congr 1; omega), h0, h1⟩, rfl⟩
  · have i1 : ¬ ((i : Int) < (n : Int)) := by omega
    clear hs
    go_enter Tryd.func27, Tryd.ntmps27
    go_wp2_with fail
    go_ret
    exact ⟨⟨_, rfl, Int.emod_nonneg _ (by omega), by have := Int.emod_lt_of_pos ((i : Int) * 7 + (n : Int)) (show (0 : Int) < 256 by omega); omega⟩, rfl⟩
end Go.Proofs.YtcjcmdikopipjaaDoor
