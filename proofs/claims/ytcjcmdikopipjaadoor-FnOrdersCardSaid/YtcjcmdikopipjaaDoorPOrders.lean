/- The law FnOrders holds for every input: the call answers true, and each argument reads afterwards as it read before. -/
import Derived.Test.YtcjcmdikopipjaaDoorRds
import Derived.Test.YtcjcmdikopipjaaDoorRdr
import Derived.Test.YtcjcmdikopipjaaDoorOtt
import Derived.Test.YtcjcmdikopipjaaDoorOtt2
import Derived.Test.YtcjcmdikopipjaaDoorDlt
import Derived.Test.YtcjcmdikopipjaaDoorD2
import Derived.Test.YtcjcmdikopipjaaDoorRw
import Derived.Test.YtcjcmdikopipjaaDoorOpG
import Derived.Test.YtcjcmdikopipjaaDoorS2
import Derived.Test.YtcjcmdikopipjaaDoorTie
import Derived.Test.YtcjcmdikopipjaaDoorCards
import Derived.SevenTiedAt
import Derived.LaidMore
import Derived.LaidHandle
import Derived.ProofKit
namespace Go.Proofs.YtcjcmdikopipjaaDoor.fnOrders
open Go.ChangeShapes Go.WideShapes Go.ChangeAt Go.RowKit Go.Deep
open Go.ChangeMaps (open_string)
set_option linter.unusedVariables false
set_option linter.unusedSimpArgs false

open Go.Joins
theorem ot_full {r : Rq} {S : ByteArray} (h : otS r = S) (hne : ¬ S = (ByteArray.mk #[])) : (orderRows r).all rowOk = true ∧ inB r.way 0 1 = true := by
  unfold otS at h
  split at h
  · rename_i h1
    split at h
    · rename_i h2
      exact ⟨h2, h1⟩
    · exact absurd h.symm hne
  · exact absurd h.symm hne

set_option maxRecDepth 20000 in
set_option maxHeartbeats 8000000 in
theorem walk (Ab : Option Addr) (nb cb : Nat) (b : List Int) (w : World) (hb : SlK 1 encByte w 0 w.heap.size Ab nb cb b ∧ ∀ z ∈ b, 0 ≤ z ∧ z ≤ 255) (htab : Lib.TabIs Tryd.prog w "internal/strconv.uint64pow10" .u64 Lib.pow10Tab) (hrng : ∃ tp p, w.var? Tryd.prog "strconv.ErrRange" = some #[.iface tp p]) (hsyn : ∃ tp p, w.var? Tryd.prog "strconv.ErrSyntax" = some #[.iface tp p]) :
    Calls Tryd.prog 9 #[.slice Ab nb cb] w fun e w' => e = .returned (.bool true) ∧ Below w.heap.size w w' := by
  obtain ⟨tr, pr, hr⟩ := hrng
  obtain ⟨ts, ps, hsy⟩ := hsyn
  obtain ⟨hs, hby⟩ := hb
  have hcap := hs.cap
  have hmax := hs.max
  by_cases hbig : nb ≤ 1048576
  · have HT := hide htab
    have HI := hide (fun (x : ByteArray) (hx : x.size ≤ 1048576) (W : World) (hb : Below w.heap.size w W) => readOrder_any x W hx (tab_stays gPow htab hb (Nat.le_refl _)) ⟨_, _, var_stays gRng hr hb (Nat.le_refl _)⟩ ⟨_, _, var_stays gSyn hsy hb (Nat.le_refl _)⟩)
    have HSL := hide hs
    have HBY := hide hby
    clear htab hr hsy
    go_enter Tryd.func9, Tryd.ntmps9
    go_wp2_with fail
    refine (big_no Ab nb cb _ hcap hmax hbig).mono ?_
    rintro e w' ⟨rfl, rfl⟩
    go_wp2_with fail
    refine (drawOrderText_any Ab nb cb b _ hs hby).mono ?_
    rintro e w1 ⟨⟨r, A1, n1, c1, A2, n2, c2, A3, n3, c3, rfl, hr, hn1, hn2, hn3⟩, hb1⟩
    have HR1 := hide hr
    have z1 := hb1.size
    have L1 := hide hb1
    have hsz := otS_size r
    have hrl1 := hr.pr.len
    have hrl2 := hr.ty.len
    have hrl3 := hr.it.len
    rw [hrl1, hrl2, hrl3] at hsz
    have HRD := hide (fun h1 h2 => read_ot r h1 h2 (by omega))
    have HOI := hide (fun W lo hi hA hB hT => orderText_any r A1 A2 A3 n1 n2 n3 c1 c2 c3 lo hi W hA hB (by omega) hT)
    have HOS := hide (fun W lo hi hA hB => sorderText_any r A1 A2 A3 n1 n2 n3 c1 c2 c3 lo hi W hA hB (by omega))
    obtain ⟨S, hS⟩ : ∃ S, otS r = S := ⟨_, rfl⟩
    simp only [hS] at HOI HOS hsz HRD
    have HSE := hide hS
    have hsz2 : S.size ≤ 1048576 := by omega
    have HIPR := hide (fun W hW => HI.out S hsz2 W hW)
    have HSPR := hide (fun W => sreadOrder_any S W hsz2)
    obtain ⟨⟨y, ai⟩, hq⟩ : ∃ q, readS S = q := ⟨_, rfl⟩
    simp only [hq] at HSPR HIPR HRD
    unfold rqV rdCells at HSPR HIPR
    have hai : (ai != ai) = false := by simp
    clear hr hb1 hs hby hS hrl1 hrl2 hrl3 hq
    go_wp2_with fail
    refine (HOI.out _ _ _ (HR1.out.alloc (Nat.le_refl _) _) (by simp) (tab_stays gPow HT.out (show Below w.heap.size w _ from (by repeat (first | with_reducible exact Below.refl _ _ | with_reducible assumption | with_reducible refine Below.setCell ?_ (by (try simp) <;> omega) _ | with_reducible refine Below.alloc ?_ (by (try simp) <;> omega) _ | with_reducible refine Below.drew ?_ | with_reducible refine below_drewN ?_ _ | with_reducible exact L1.out | with_reducible refine Below.trans ?_ (Below.mono L1.out (by (try simp) <;> omega))))) (Nat.le_refl _))).mono ?_
    rintro e w2 ⟨rfl, hb2⟩
    have z2 := hb2.size
    simp only [World.size_alloc] at z2
    have HR2 := hide ((HR1.out.alloc (Nat.le_refl _) (.cells #[.int .i64 r.way, .int .i64 r.pal.w, .int .i64 r.pal.d, .int .i64 r.pal.h, .int .i64 r.pal.gram, .int .i64 r.cls, .slice A1 n1 c1, .slice A2 n2 c2, .int .i64 r.master, .slice A3 n3 c3] 41)).below hb2 (by simp))
    have PR2 := hide (Blk.belowH (Blk.new w1 41 #[.int .i64 r.way, .int .i64 r.pal.w, .int .i64 r.pal.d, .int .i64 r.pal.h, .int .i64 r.pal.gram, .int .i64 r.cls, .slice A1 n1 c1, .slice A2 n2 c2, .int .i64 r.master, .slice A3 n3 c3] (g := w1.heap.size) rfl) hb2)
    have L2 := hide (show Below w.heap.size w w2 from (by repeat (first | with_reducible exact Below.refl _ _ | with_reducible assumption | with_reducible refine Below.setCell ?_ (by (try simp) <;> omega) _ | with_reducible refine Below.alloc ?_ (by (try simp) <;> omega) _ | with_reducible refine Below.drew ?_ | with_reducible refine below_drewN ?_ _ | with_reducible exact L1.out | with_reducible exact hb2 | with_reducible refine Below.trans ?_ (Below.mono L1.out (by (try simp) <;> omega)) | with_reducible refine Below.trans ?_ (Below.mono hb2 (by (try simp) <;> omega)))))
    have kR := PR2.out.cell
    have yR := PR2.out.lt
    clear hb2 HR1
    go_wp2_with fail
    refine (HOS.out _ _ _ HR2.out (by omega)).mono ?_
    rintro e w3 ⟨rfl, hb3⟩
    have z3 := hb3.size
    have HR3 := hide (HR2.out.below hb3 (by omega))
    have PR3 := hide (PR2.out.belowH hb3)
    have L3 := hide (L2.out.trans (hb3.mono (by omega)))
    clear hb3 kR yR PR2 HR2 HOI HOS
    go_wp2_with fail
    refine (HIPR.out _ L3.out).mono ?_
    rintro e w4 ⟨⟨b1, b2, b3, rfl, ho4, hyl⟩, hb4⟩
    obtain ⟨B1, Bc1, B2, Bc2, B3, Bc3, rfl, rfl, rfl, HY4⟩ := ho4.rqAt
    have z4 := hb4.size
    have HR4 := hide (HR3.out.below hb4 (by omega))
    have PR4 := hide (PR3.out.belowH hb4)
    have L4 := hide (L3.out.trans (hb4.mono (by omega)))
    clear ho4 hb4 HR3 PR3
    go_wp2_with fail
    refine (HSPR.out _).mono ?_
    rintro e w5 ⟨⟨d1, d2, d3, rfl, ho5, _⟩, hb5⟩
    obtain ⟨C1, Cc1, C2, Cc2, C3, Cc3, rfl, rfl, rfl, _⟩ := ho5.rqAt
    have z5 := hb5.size
    simp only [World.size_alloc] at z5
    have HY7 := hide (((HY4.alloc (Nat.le_refl _) (.cells #[.int .i64 y.way, .int .i64 y.pal.w, .int .i64 y.pal.d, .int .i64 y.pal.h, .int .i64 y.pal.gram, .int .i64 y.cls, .slice B1 y.pairs.length Bc1, .slice B2 y.types.length Bc2, .int .i64 y.master, .slice B3 y.items.length Bc3] 41)).below hb5 (by simp)).alloc (by omega) (.cells #[.int .i64 y.way, .int .i64 y.pal.w, .int .i64 y.pal.d, .int .i64 y.pal.h, .int .i64 y.pal.gram, .int .i64 y.cls, .slice C1 y.pairs.length Cc1, .slice C2 y.types.length Cc2, .int .i64 y.master, .slice C3 y.items.length Cc3] 41))
    have PY7 := hide ((Blk.belowH (Blk.new w4 41 #[.int .i64 y.way, .int .i64 y.pal.w, .int .i64 y.pal.d, .int .i64 y.pal.h, .int .i64 y.pal.gram, .int .i64 y.cls, .slice B1 y.pairs.length Bc1, .slice B2 y.types.length Bc2, .int .i64 y.master, .slice B3 y.items.length Bc3] (g := w4.heap.size) rfl) hb5).alloc (.cells #[.int .i64 y.way, .int .i64 y.pal.w, .int .i64 y.pal.d, .int .i64 y.pal.h, .int .i64 y.pal.gram, .int .i64 y.cls, .slice C1 y.pairs.length Cc1, .slice C2 y.types.length Cc2, .int .i64 y.master, .slice C3 y.items.length Cc3] 41))
    have HR7 := hide (((HR4.out.alloc (by omega) (.cells #[.int .i64 y.way, .int .i64 y.pal.w, .int .i64 y.pal.d, .int .i64 y.pal.h, .int .i64 y.pal.gram, .int .i64 y.cls, .slice B1 y.pairs.length Bc1, .slice B2 y.types.length Bc2, .int .i64 y.master, .slice B3 y.items.length Bc3] 41)).below hb5 (by simp; omega)).alloc (by omega) (.cells #[.int .i64 y.way, .int .i64 y.pal.w, .int .i64 y.pal.d, .int .i64 y.pal.h, .int .i64 y.pal.gram, .int .i64 y.cls, .slice C1 y.pairs.length Cc1, .slice C2 y.types.length Cc2, .int .i64 y.master, .slice C3 y.items.length Cc3] 41))
    have PR7 := hide (((PR4.out.alloc (.cells #[.int .i64 y.way, .int .i64 y.pal.w, .int .i64 y.pal.d, .int .i64 y.pal.h, .int .i64 y.pal.gram, .int .i64 y.cls, .slice B1 y.pairs.length Bc1, .slice B2 y.types.length Bc2, .int .i64 y.master, .slice B3 y.items.length Bc3] 41)).belowH hb5).alloc (.cells #[.int .i64 y.way, .int .i64 y.pal.w, .int .i64 y.pal.d, .int .i64 y.pal.h, .int .i64 y.pal.gram, .int .i64 y.cls, .slice C1 y.pairs.length Cc1, .slice C2 y.types.length Cc2, .int .i64 y.master, .slice C3 y.items.length Cc3] 41))
    have L7 := hide (show Below w.heap.size w (w5.alloc (.cells #[.int .i64 y.way, .int .i64 y.pal.w, .int .i64 y.pal.d, .int .i64 y.pal.h, .int .i64 y.pal.gram, .int .i64 y.cls, .slice C1 y.pairs.length Cc1, .slice C2 y.types.length Cc2, .int .i64 y.master, .slice C3 y.items.length Cc3] 41)) from (by repeat (first | with_reducible exact Below.refl _ _ | with_reducible assumption | with_reducible refine Below.setCell ?_ (by (try simp) <;> omega) _ | with_reducible refine Below.alloc ?_ (by (try simp) <;> omega) _ | with_reducible refine Below.drew ?_ | with_reducible refine below_drewN ?_ _ | with_reducible exact L4.out | with_reducible exact hb5 | with_reducible refine Below.trans ?_ (Below.mono L4.out (by (try simp) <;> omega)) | with_reducible refine Below.trans ?_ (Below.mono hb5 (by (try simp) <;> omega)))))
    have kY := PY7.out.cell
    have yY := PY7.out.lt
    have kR := PR7.out.cell
    have yR := PR7.out.lt
    clear ho5 hb5 HY4 HR4 PR4
    by_cases hE : S = (ByteArray.mk #[])
    · have hne : (S.toList == []) = true := by rw [hE, ByteArray.toList_eq]; rfl
      clear hE
      go_wp2_with fail
      refine (drawReadOrder_any Ab nb cb b _ ((HSL.out.below L7.out (Nat.le_refl _)).more (Nat.le_refl _) L7.out.size) HBY.out).mono ?_
      rintro e v1 ⟨⟨X, rfl, hXs⟩, hb1⟩
      have M1 := hide (L7.out.trans (hb1.mono L7.out.size))
      have hX2 : X.size ≤ 1048576 := by omega
      have HIP2 := hide (fun W hW => HI.out X hX2 W hW)
      have HSP2 := hide (fun W => sreadOrder_any X W hX2)
      have HRP := hide (read_place X)
      have HOR := hide (fun y (h : readS X = (y, -1)) => ot_read h)
      obtain ⟨⟨u, ui⟩, hq⟩ : ∃ q, readS X = q := ⟨_, rfl⟩
      rw [hq] at HRP
      simp only [hq] at HSP2 HIP2 HOR
      unfold rqV rdCells at HSP2 HIP2
      have hui : (ui != ui) = false := by simp
      clear hb1 hq
      go_wp2_with fail
      refine (HIP2.out _ M1.out).mono ?_
      rintro e v4 ⟨⟨b1, b2, b3, rfl, ho4, hul⟩, hb4⟩
      obtain ⟨D1, Dc1, D2, Dc2, D3, Dc3, rfl, rfl, rfl, HU4⟩ := ho4.rqAt
      have q4 := hb4.size
      have M4 := hide (M1.out.trans (hb4.mono M1.out.size))
      have yM := M4.out.size
      have hul2 : u.pairs.length + u.types.length + u.items.length ≤ 60 := hul
      clear ho4 hb4 hul
      go_wp2_with fail
      refine (HSP2.out _).mono ?_
      rintro e v5 ⟨⟨d1, d2, d3, rfl, ho5, _⟩, hb5⟩
      obtain ⟨E1, Ec1, E2, Ec2, E3, Ec3, rfl, rfl, rfl, _⟩ := ho5.rqAt
      have q5 := hb5.size
      simp only [World.size_alloc] at q5
      have HU7 := hide (((HU4.alloc (Nat.le_refl _) (.cells #[.int .i64 u.way, .int .i64 u.pal.w, .int .i64 u.pal.d, .int .i64 u.pal.h, .int .i64 u.pal.gram, .int .i64 u.cls, .slice D1 u.pairs.length Dc1, .slice D2 u.types.length Dc2, .int .i64 u.master, .slice D3 u.items.length Dc3] 41)).below hb5 (by simp)).alloc (by omega) (.cells #[.int .i64 u.way, .int .i64 u.pal.w, .int .i64 u.pal.d, .int .i64 u.pal.h, .int .i64 u.pal.gram, .int .i64 u.cls, .slice E1 u.pairs.length Ec1, .slice E2 u.types.length Ec2, .int .i64 u.master, .slice E3 u.items.length Ec3] 41))
      have PU7 := hide ((Blk.belowH (Blk.new v4 41 #[.int .i64 u.way, .int .i64 u.pal.w, .int .i64 u.pal.d, .int .i64 u.pal.h, .int .i64 u.pal.gram, .int .i64 u.cls, .slice D1 u.pairs.length Dc1, .slice D2 u.types.length Dc2, .int .i64 u.master, .slice D3 u.items.length Dc3] (g := v4.heap.size) rfl) hb5).alloc (.cells #[.int .i64 u.way, .int .i64 u.pal.w, .int .i64 u.pal.d, .int .i64 u.pal.h, .int .i64 u.pal.gram, .int .i64 u.cls, .slice E1 u.pairs.length Ec1, .slice E2 u.types.length Ec2, .int .i64 u.master, .slice E3 u.items.length Ec3] 41))
      have M7 := hide (show Below w.heap.size w (v5.alloc (.cells #[.int .i64 u.way, .int .i64 u.pal.w, .int .i64 u.pal.d, .int .i64 u.pal.h, .int .i64 u.pal.gram, .int .i64 u.cls, .slice E1 u.pairs.length Ec1, .slice E2 u.types.length Ec2, .int .i64 u.master, .slice E3 u.items.length Ec3] 41)) from (by repeat (first | with_reducible exact Below.refl _ _ | with_reducible assumption | with_reducible refine Below.setCell ?_ (by (try simp) <;> omega) _ | with_reducible refine Below.alloc ?_ (by (try simp) <;> omega) _ | with_reducible refine Below.drew ?_ | with_reducible refine below_drewN ?_ _ | with_reducible exact M4.out | with_reducible exact hb5 | with_reducible refine Below.trans ?_ (Below.mono M4.out (by (try simp) <;> omega)) | with_reducible refine Below.trans ?_ (Below.mono hb5 (by (try simp) <;> omega)))))
      have kU := PU7.out.cell
      have yU := PU7.out.lt
      clear ho5 hb5 HU4
      by_cases h0 : 0 ≤ ui
      · have hu0 : u = rq0 := by
          rcases HRP.out with h | ⟨h1, _, _⟩
          · exfalso
            have h' : ui = -1 := h
            omega
          · exact h1
        have htl : ((u.types.length : Int) == 0) = true := by rw [hu0]; rfl
        have hil : ((u.items.length : Int) == 0) = true := by rw [hu0]; rfl
        clear hu0
        go_wp2_with fail
        go_ret
        exact ⟨rfl, M7.out⟩
      · have hui1 : ui = -1 := by
          rcases HRP.out with h | ⟨_, h2, _⟩
          · exact h
          · exact absurd h2 h0
        have HOU := hide (HOR.out u (by rw [hui1]))
        clear hui1
        go_wp2_with fail
        refine (orderText_any u D1 D2 D3 u.pairs.length u.types.length u.items.length Dc1 Dc2 Dc3 v1.heap.size v4.heap.size _ HU7.out (by (try simp) <;> omega) (by omega) (tab_stays gPow HT.out (show Below w.heap.size w _ from M7.out) (Nat.le_refl _))).mono ?_
        rw [HOU.out]
        rintro e v8 ⟨rfl, hb8⟩
        go_wp2_with fail
        go_ret
        exact ⟨rfl, M7.out.trans (hb8.mono M7.out.size)⟩
    · have hne : (S.toList == []) = false := litne hE
      obtain ⟨h1, h2⟩ := ot_full HSE.out hE
      have hyr := HRD.out h1 h2
      obtain rfl : y = r := congrArg Prod.fst hyr
      obtain rfl : ai = -1 := congrArg Prod.snd hyr
      have HSR := hide (fun W lo hi lo' hi' ha hB hb' hB' => ssame_any y y B1 B2 B3 y.pairs.length y.types.length y.items.length Bc1 Bc2 Bc3 A1 A2 A3 n1 n2 n3 c1 c2 c3 lo hi lo' hi' W ha hB hb' hB')
      rw [sameRq_self] at HSR
      clear hyr h1 h2 hE
      go_wp2_with fail
      refine (HSR.out _ w3.heap.size w4.heap.size w.heap.size w1.heap.size HY7.out (by (try simp) <;> omega) HR7.out (by (try simp) <;> omega)).mono ?_
      rintro e w6 ⟨rfl, hb6⟩
      have L6 := hide (L7.out.trans (hb6.mono L7.out.size))
      clear hb6 kY yY kR yR
      go_wp2_with fail
      refine (drawReadOrder_any Ab nb cb b _ ((HSL.out.below L6.out (Nat.le_refl _)).more (Nat.le_refl _) L6.out.size) HBY.out).mono ?_
      rintro e v1 ⟨⟨X, rfl, hXs⟩, hb1⟩
      have M1 := hide (L6.out.trans (hb1.mono L6.out.size))
      have hX2 : X.size ≤ 1048576 := by omega
      have HIP2 := hide (fun W hW => HI.out X hX2 W hW)
      have HSP2 := hide (fun W => sreadOrder_any X W hX2)
      have HRP := hide (read_place X)
      have HOR := hide (fun y (h : readS X = (y, -1)) => ot_read h)
      obtain ⟨⟨u, ui⟩, hq⟩ : ∃ q, readS X = q := ⟨_, rfl⟩
      rw [hq] at HRP
      simp only [hq] at HSP2 HIP2 HOR
      unfold rqV rdCells at HSP2 HIP2
      have hui : (ui != ui) = false := by simp
      clear hb1 hq
      go_wp2_with fail
      refine (HIP2.out _ M1.out).mono ?_
      rintro e v4 ⟨⟨b1, b2, b3, rfl, ho4, hul⟩, hb4⟩
      obtain ⟨D1, Dc1, D2, Dc2, D3, Dc3, rfl, rfl, rfl, HU4⟩ := ho4.rqAt
      have q4 := hb4.size
      have M4 := hide (M1.out.trans (hb4.mono M1.out.size))
      have yM := M4.out.size
      have hul2 : u.pairs.length + u.types.length + u.items.length ≤ 60 := hul
      clear ho4 hb4 hul
      go_wp2_with fail
      refine (HSP2.out _).mono ?_
      rintro e v5 ⟨⟨d1, d2, d3, rfl, ho5, _⟩, hb5⟩
      obtain ⟨E1, Ec1, E2, Ec2, E3, Ec3, rfl, rfl, rfl, _⟩ := ho5.rqAt
      have q5 := hb5.size
      simp only [World.size_alloc] at q5
      have HU7 := hide (((HU4.alloc (Nat.le_refl _) (.cells #[.int .i64 u.way, .int .i64 u.pal.w, .int .i64 u.pal.d, .int .i64 u.pal.h, .int .i64 u.pal.gram, .int .i64 u.cls, .slice D1 u.pairs.length Dc1, .slice D2 u.types.length Dc2, .int .i64 u.master, .slice D3 u.items.length Dc3] 41)).below hb5 (by simp)).alloc (by omega) (.cells #[.int .i64 u.way, .int .i64 u.pal.w, .int .i64 u.pal.d, .int .i64 u.pal.h, .int .i64 u.pal.gram, .int .i64 u.cls, .slice E1 u.pairs.length Ec1, .slice E2 u.types.length Ec2, .int .i64 u.master, .slice E3 u.items.length Ec3] 41))
      have PU7 := hide ((Blk.belowH (Blk.new v4 41 #[.int .i64 u.way, .int .i64 u.pal.w, .int .i64 u.pal.d, .int .i64 u.pal.h, .int .i64 u.pal.gram, .int .i64 u.cls, .slice D1 u.pairs.length Dc1, .slice D2 u.types.length Dc2, .int .i64 u.master, .slice D3 u.items.length Dc3] (g := v4.heap.size) rfl) hb5).alloc (.cells #[.int .i64 u.way, .int .i64 u.pal.w, .int .i64 u.pal.d, .int .i64 u.pal.h, .int .i64 u.pal.gram, .int .i64 u.cls, .slice E1 u.pairs.length Ec1, .slice E2 u.types.length Ec2, .int .i64 u.master, .slice E3 u.items.length Ec3] 41))
      have M7 := hide (show Below w.heap.size w (v5.alloc (.cells #[.int .i64 u.way, .int .i64 u.pal.w, .int .i64 u.pal.d, .int .i64 u.pal.h, .int .i64 u.pal.gram, .int .i64 u.cls, .slice E1 u.pairs.length Ec1, .slice E2 u.types.length Ec2, .int .i64 u.master, .slice E3 u.items.length Ec3] 41)) from (by repeat (first | with_reducible exact Below.refl _ _ | with_reducible assumption | with_reducible refine Below.setCell ?_ (by (try simp) <;> omega) _ | with_reducible refine Below.alloc ?_ (by (try simp) <;> omega) _ | with_reducible refine Below.drew ?_ | with_reducible refine below_drewN ?_ _ | with_reducible exact M4.out | with_reducible exact hb5 | with_reducible refine Below.trans ?_ (Below.mono M4.out (by (try simp) <;> omega)) | with_reducible refine Below.trans ?_ (Below.mono hb5 (by (try simp) <;> omega)))))
      have kU := PU7.out.cell
      have yU := PU7.out.lt
      clear ho5 hb5 HU4
      by_cases h0 : 0 ≤ ui
      · have hu0 : u = rq0 := by
          rcases HRP.out with h | ⟨h1, _, _⟩
          · exfalso
            have h' : ui = -1 := h
            omega
          · exact h1
        have htl : ((u.types.length : Int) == 0) = true := by rw [hu0]; rfl
        have hil : ((u.items.length : Int) == 0) = true := by rw [hu0]; rfl
        clear hu0
        go_wp2_with fail
        go_ret
        exact ⟨rfl, M7.out⟩
      · have hui1 : ui = -1 := by
          rcases HRP.out with h | ⟨_, h2, _⟩
          · exact h
          · exact absurd h2 h0
        have HOU := hide (HOR.out u (by rw [hui1]))
        clear hui1
        go_wp2_with fail
        refine (orderText_any u D1 D2 D3 u.pairs.length u.types.length u.items.length Dc1 Dc2 Dc3 v1.heap.size v4.heap.size _ HU7.out (by (try simp) <;> omega) (by omega) (tab_stays gPow HT.out (show Below w.heap.size w _ from M7.out) (Nat.le_refl _))).mono ?_
        rw [HOU.out]
        rintro e v8 ⟨rfl, hb8⟩
        go_wp2_with fail
        go_ret
        exact ⟨rfl, M7.out.trans (hb8.mono M7.out.size)⟩
  · go_enter Tryd.func9, Tryd.ntmps9
    go_wp2_with fail
    refine (big_yes Ab nb cb _ hcap hmax hbig).mono ?_
    rintro e w' ⟨rfl, rfl⟩
    go_wp2
    go_ret
    exact ⟨rfl, Below.refl _ _⟩
/-- The door's own heap meets the condition. -/
theorem door_met (os : Os) (args : Array Value) : laidMetH Tryd.prog Rows.fnOrdersRow.laid ((World.doorLaid Tryd.prog 62 os).forCall (fun _ _ => 0) ⟨#[], args, []⟩).memory :=
  laidMetH_of_parts3 (fuel := 8) (laidMet_of_run' 8 (by kernel_rfl) (by kernel_rfl)) (by kernel_rfl) (by kernel_rfl)
theorem met_plain {W : World} (h : laidMetH Tryd.prog Rows.fnOrdersRow.laid W) : laidMet Tryd.prog Rows.fnOrdersRow.laid W := by
  rw [MakeChecks.laidMetH_plain _ _ _ (by kernel_rfl)] at h
  exact h
theorem tab_of_laid {W : World} (h : laidMetH Tryd.prog Rows.fnOrdersRow.laid W) : Lib.TabIs Tryd.prog W "internal/strconv.uint64pow10" .u64 Lib.pow10Tab :=
  Lib.tabIs_of_head gPow gPowTy Tryd.underlying160 Tryd.underlying143 cU64 cPow (met_plain h).tail.tail
theorem rng_of_laid {W : World} (h : laidMetH Tryd.prog Rows.fnOrdersRow.laid W) : ∃ tp p, W.var? Tryd.prog "strconv.ErrRange" = some #[.iface tp p] := by
  obtain ⟨a0, s0, hv0, _⟩ := laid_sentinel (met_plain h).tail.tail.tail gRng gRngTy Tryd.underlying63 rowErr Tryd.underlying165 Tryd.underlying167 rfl rfl Tryd.underlying9 cErr cStr
  exact ⟨_, _, hv0⟩
theorem syn_of_laid {W : World} (h : laidMetH Tryd.prog Rows.fnOrdersRow.laid W) : ∃ tp p, W.var? Tryd.prog "strconv.ErrSyntax" = some #[.iface tp p] := by
  obtain ⟨a0, s0, hv0, _⟩ := laid_sentinel (met_plain h).tail.tail.tail.tail gSyn gSynTy Tryd.underlying63 rowErr Tryd.underlying165 Tryd.underlying167 rfl rfl Tryd.underlying9 cErr cStr
  exact ⟨_, _, hv0⟩
set_option maxRecDepth 100000 in
set_option maxHeartbeats 1000000 in
theorem lifted (os : Os) (started : os.Started) (H : Type) (enc : TypeId × Value → H) :
    ReturnsInHanded {} Tryd.checked os 9 .any (fun w args => (Rows.fnOrdersSpec.pre enc Tryd.prog Tryd.f9 [] false w args ∧ laidMetH Tryd.prog Rows.fnOrdersRow.laid w) ∧ sizedMet enc Tryd.prog Tryd.f9 (OpenSpec.ofChange Rows.fnOrdersSpec) false w args) (Rows.fnOrdersSpec.post enc Tryd.prog Tryd.f9 false true false false) := by
  refine returnsInHanded_of_change_and (C := Tryd.checked) (X := fun w _ => laidMetH Tryd.prog Rows.fnOrdersRow.laid w) (fun _ _ _ hh h => h.of_heap hh) ownK started (by kernel_rfl) Tryd.func9
    (ChangeSpec.witness_shaped (enc := enc) (C := Tryd.checked) (os := os) (X := fun w _ => laidMetH Tryd.prog Rows.fnOrdersRow.laid w) false (World.doorLaid Tryd.prog 62 os) #[.slice none 0 0] 8 rfl (World.shaped_of_RefB (by kernel_rfl) (by kernel_rfl)) (by kernel_rfl) (by kernel_rfl) (by kernel_rfl) (door_met os _)) ?_
  intro W base args ds gs before hval0 hW _ _ hL _
  have hval : ∀ (j : Nat) t v, Tryd.f9.params[j]? = some t → args[j]? = some v → Value.okWide Tryd.prog W .any base t v := hval0
  have hW' := hW
  obtain ⟨p, q, hA0, hV, rfl, hfz, hnd⟩ := hW
  have hA : DataW.TrodAll enc Tryd.prog W 0 (fun _ => true) true Tryd.f9.params.toList args.toList ds p := hA0
  have hV' := hV
  obtain ⟨rfl, rfl⟩ := trodVars_none hV'
  rw [Tryd.params9] at hA hval
  obtain ⟨v0, vs0, d0, ds0, p0, q0, hargs, rfl, rfl, h0, r0⟩ := trodAll_cons hA
  obtain ⟨rfl, rfl, rfl⟩ := trodAll_nil r0
  obtain rfl : args = #[v0] := by cases args; simp_all
  have hz0 : W.noneFrozen p0 := fun b off hin => hfz b off (by simp [hin])
  obtain ⟨Ab, nb, cb, b, rfl, hb⟩ : ∃ A n c, ∃ xs : List Int, v0 = .slice A n c ∧ (SlK 1 encByte W 0 W.heap.size A n c xs ∧ ∀ z ∈ xs, 0 ≤ z ∧ z ≤ 255) := by
    obtain ⟨a0, len0, cap0, rfl⟩ := okWide_slice Tryd.underlying45 (hval 0 45 v0 rfl rfl)
    obtain ⟨fu, hf⟩ := h0
    exact open_bytes Tryd.underlying45 (by kernel_rfl) Tryd.underlying5 (by simpa [Value.cells] using hf) hz0
  refine (walk Ab nb cb b W hb (tab_of_laid hL) (rng_of_laid hL) (syn_of_laid hL)).mono fun e W' ⟨he, hb⟩ => ?_
  subst he
  exact ⟨_, rfl, law_post laidO (by intro t ht; rw [Tryd.params9] at ht; simp only [List.mem_cons, List.not_mem_nil, or_false] at ht; subst ht; exact ⟨by kernel_rfl, of_decide_eq_true (by kernel_rfl)⟩) rfl (by kernel_rfl) Tryd.underlying4 hW' rfl hb⟩

theorem over : Rows.fnOrdersRow.holds Tryd.pinned (OpenSpec.ofChange Rows.fnOrdersSpec) :=
  OpenClaim.holds_of_wide 9 Tryd.f9 rfl rfl rfl rfl rfl rfl rfl ⟨rfl, rfl, rfl, rfl, rfl⟩ rfl rfl rfl rfl rfl (by kernel_rfl) Tryd.func9 (by kernel_rfl)
    (of_decide_eq_true (by kernel_rfl)) (by unfold Func.isWrapper; first | (rw [if_pos (by decide +kernel)]; kernel_rfl) | (rw [if_neg (by decide +kernel)]; exact ⟨rfl, rfl⟩))
    (fun os started H enc _ => lifted os started H enc)

theorem proved : Rows.FnOrdersCardSaid :=
  Claim7.holds_tied_plain_at .later [] [.data, .data, .data, .sentinel, .sentinel] true (true, "47db44bfef9637420b27c10cfcd8988c2986ee371ee12df26c06bbb8d457f40f") true
    over (fun _ h => by cases h) (by kernel_rfl) (fun _ h => by cases h) fnOrders_row_tie rfl ⟨rfl, rfl⟩ (by kernel_rfl) rfl
    (fun f fn hf hfn => by
      obtain rfl : f = 9 := Option.some.inj ((show Tryd.prog.funcNamed "loop.example/g00489/laws.FnOrders" = some 9 by kernel_rfl).symm.trans hf) |>.symm
      obtain rfl : fn = Tryd.f9 := (Option.some.inj (Tryd.func9.symm.trans hfn)).symm
      exact ⟨by kernel_rfl, fun j t ht => by
        rw [Tryd.params9] at ht
        have hm : t ∈ [45] := by simpa using Array.mem_of_getElem? ht
        have hall : ([45].all fun u => !Tryd.prog.wantsStandIn u) = true := by kernel_rfl
        exact (show Tryd.prog.wantsStandIn t = false by simpa using List.all_eq_true.1 hall t hm)⟩)
    (by kernel_rfl)
#print axioms proved
end Go.Proofs.YtcjcmdikopipjaaDoor.fnOrders
