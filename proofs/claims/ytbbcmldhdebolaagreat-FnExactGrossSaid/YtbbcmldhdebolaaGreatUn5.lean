/- VolumeOf, GramOf of the reference. -/
import Derived.Test.YtbbcmldhdebolaaGreatUn1
namespace Go.Proofs.YtbbcmldhdebolaaGreat
open Go.ChangeShapes Go.WideShapes Go.ChangeAt Go.RowKit Go.Deep
set_option linter.unusedVariables false
set_option linter.unusedSimpArgs false

set_option maxRecDepth 20000 in
set_option maxHeartbeats 2000000 in
theorem sgramOf_any (r : Rq) (A1 A2 A3 : Option Addr) (n1 n2 n3 c1 c2 c3 : Nat) (lo hi : Nat) (lo2 hi2 : Nat) (A : Option Addr) (n c : Nat) (us : List Int) (w : World) (hr : RqAt w lo hi r A1 n1 c1 A2 n2 c2 A3 n3 c3) (hB : hi ≤ w.heap.size) (hs : SlK 1 encInt w lo2 hi2 A n c us) (hB2 : hi2 ≤ w.heap.size) (hn : n ≤ 1048580) :
    Calls Tryz.prog 51 #[.agg #[.int .i64 r.way, .int .i64 r.pal.w, .int .i64 r.pal.d, .int .i64 r.pal.h, .int .i64 r.pal.gram, .int .i64 r.cls, .slice A1 n1 c1, .slice A2 n2 c2, .int .i64 r.master, .slice A3 n3 c3], .slice A n c] w fun e w' => e = .returned (.int .i64 (gramU r us)) ∧ Below w.heap.size w w' := by
  have HR := hide hr
  have HS := hide hs
  have HL := hide hs.len
  have hcu := hs.cap
  have hmu := hs.max
  clear hr hs
  go_enter Tryz.func51, Tryz.ntmps51
  go_wp2_with fail
  refine (sunits_any r A1 A2 A3 n1 n2 n3 c1 c2 c3 lo hi _ (HR.out.below (B := w.heap.size) (by repeat (first | with_reducible exact Below.refl _ _ | with_reducible assumption | with_reducible refine Below.setCell ?_ (by (try simp) <;> omega) _ | with_reducible refine Below.alloc ?_ (by (try simp) <;> omega) _ | with_reducible refine Below.drew ?_ | with_reducible refine below_drewN ?_ _)) hB) (by (try simp) <;> omega)).mono ?_
  rintro e w1 ⟨v1, rfl, ho1, hb1⟩
  have L1 := hide (show Below w.heap.size w w1 from (by repeat (first | with_reducible exact Below.refl _ _ | with_reducible assumption | with_reducible refine Below.setCell ?_ (by (try simp) <;> omega) _ | with_reducible refine Below.alloc ?_ (by (try simp) <;> omega) _ | with_reducible refine Below.drew ?_ | with_reducible refine below_drewN ?_ _ | with_reducible exact hb1 | with_reducible refine Below.trans ?_ (Below.mono hb1 (by (try simp) <;> omega)))))
  have P1 := hide (Blk.belowH (Blk.new w 37 (#[.int .i64 r.way, .int .i64 r.pal.w, .int .i64 r.pal.d, .int .i64 r.pal.h, .int .i64 r.pal.gram, .int .i64 r.cls, .slice A1 n1 c1, .slice A2 n2 c2, .int .i64 r.master, .slice A3 n3 c3]) (g := w.heap.size) (by simp)) hb1)
  obtain ⟨m, hm⟩ : ∃ m, (unitsR r).length = m := ⟨_, rfl⟩
  obtain ⟨A1', c1', rfl, s1⟩ := Own.slk' encInt_len hm ho1
  have S1 := hide (s1.more (Nat.zero_le _) (Nat.le_refl _))
  have z1 : w.heap.size + 1 ≤ w1.heap.size := by simpa using hb1.size
  clear hb1 ho1 s1 hm
  obtain ⟨RL, hRL⟩ : ∃ RL : Array Value, RL = #[.int .i64 r.way, .int .i64 r.pal.w, .int .i64 r.pal.d, .int .i64 r.pal.h, .int .i64 r.pal.gram, .int .i64 r.cls, .slice A1 n1 c1, .slice A2 n2 c2, .int .i64 r.master, .slice A3 n3 c3] := ⟨_, rfl⟩
  have HRL := hide hRL
  clear hRL
  go_wp2
  go_loopw [6, 7] (fun s i wr => ∃ k : Nat, k ≤ n ∧ i = .int .i64 k ∧ s = .int .i64 (gramU r (us.take k)) ∧ Blk wr w.heap.size 37 RL ∧ Below w1.heap.size w1 wr) (fun _ i _ => n - (intOf i).toNat)
  case atStart => exact ⟨0, Nat.zero_le _, rfl, rfl, P1.out.as HRL.out.symm, (by repeat (first | with_reducible exact Below.refl _ _ | with_reducible assumption | with_reducible refine Below.setCell ?_ (by (try simp) <;> omega) _ | with_reducible refine Below.alloc ?_ (by (try simp) <;> omega) _ | with_reducible refine Below.drew ?_ | with_reducible refine below_drewN ?_ _))⟩
  case round =>
    obtain ⟨k, hk, rfl, rfl, B0, hbel⟩ := hrel
    have HBel := hide hbel
    have PR := hide B0
    have kR := (B0.as HRL.out).cell
    have yR := B0.lt
    have HB := hide (gramU_bd r (us.take k))
    have hlen : (us.take k).length ≤ k := List.length_take_le _ _
    have hz := hbel.size
    have HL0 := hide (show Below w.heap.size w wr from L1.out.trans (hbel.mono (by omega)))
    clear hbel B0
    by_cases hlt : k < n
    · obtain ⟨bu, ou, x, hx, rfl, _, hbu, cu, _⟩ := (HS.out.below HL0.out hB2).int hlt
      have HX := hide hx
      have hsn := hide (gramU_snoc (r := r) hx)
      have HV1 := hide (volI_bd (itD (unitIt r x)))
      have HG1 := hide (itD_gram r x)
      have hb1 : 0 ≤ gramU r (us.take k) := HB.out.1
      have hb2 : gramU r (us.take k) ≤ 104858000000 := by have := HB.out.2; omega
      have i0 : (0 : Int) ≤ (k : Int) := by omega
      have i1 : (k : Int) < (n : Int) := by omega
      have z0 : bu < wr.heap.size := by omega
      have HI := sl6item_any r A1 A2 A3 n1 n2 n3 c1 c2 c3 lo hi x 0 w1.heap.size A1' m c1'
      clear hx
      obtain ⟨S, hS⟩ : ∃ S, gramU r (us.take k) = S := ⟨_, rfl⟩
      have HSS := hide hS
      rw [hS] at hb1 hb2 ⊢
      clear hS
      obtain ⟨y, hy⟩ : ∃ y, itD (unitIt r x) = y := ⟨_, rfl⟩
      have HY := hide hy
      rw [hy] at HV1 HG1 HI
      clear hy
      have hv1 := HV1.out.1
      have hv2 := HV1.out.2
      rw [show volI y = vol y.w y.h y.d from rfl] at hv1 hv2
      have hg1 := HG1.out.1
      have hg2 := HG1.out.2
      have HII := hide HI
      clear HI
      have e0 : w.heap.size ≠ wr.heap.size := by omega
      have e1 : bu ≠ wr.heap.size := by omega
      have e0' : wr.heap.size ≠ w.heap.size := by omega
      have e1' : wr.heap.size ≠ bu := by omega
      go_wp2_with fail
      go_region_held3 (fun w' => w'.cell? ⟨w.heap.size, 0, none⟩ = some (.int .i64 r.way) ∧ w'.cell? ⟨w.heap.size, 1, none⟩ = some (.int .i64 r.pal.w) ∧ w'.cell? ⟨w.heap.size, 2, none⟩ = some (.int .i64 r.pal.d) ∧ w'.cell? ⟨w.heap.size, 3, none⟩ = some (.int .i64 r.pal.h) ∧ w'.cell? ⟨w.heap.size, 4, none⟩ = some (.int .i64 r.pal.gram) ∧ w'.cell? ⟨w.heap.size, 5, none⟩ = some (.int .i64 r.cls) ∧ w'.cell? ⟨w.heap.size, 6, none⟩ = some (.slice A1 n1 c1) ∧ w'.cell? ⟨w.heap.size, 7, none⟩ = some (.slice A2 n2 c2) ∧ w'.cell? ⟨w.heap.size, 8, none⟩ = some (.int .i64 r.master) ∧ w'.cell? ⟨w.heap.size, 9, none⟩ = some (.slice A3 n3 c3) ∧ w'.cell? ⟨bu, ou + k, none⟩ = some (.int .i64 x)) (go_keep) (first | (go_at_call 57; (with_reducible refine (HII.out _ (HR.out.below HL0.out hB).drew (by simp; omega) (S1.out.below HBel.out (Nat.le_refl _)).drew (by simpa using hz)).mono ?_); rintro e w2 ⟨rfl, hb2'⟩; have PR2 := hide (PR.out.drew.belowH hb2'); have BB := hide ((Below.refl wr.heap.size wr).drew.trans (hb2'.mono (by simp))); have L2 := hide (HBel.out.trans (BB.out.mono hz)); have hcc : ∀ b o, b < wr.heap.size → w2.cell? ⟨b, o, none⟩ = wr.cell? ⟨b, o, none⟩ := (fun b o h => BB.out.cell (p := ⟨b, o, none⟩) h); have z2 : wr.heap.size ≤ w2.heap.size := (by simpa using hb2'.size); have e2 : w.heap.size ≠ w2.heap.size := (by omega); have e3 : bu ≠ w2.heap.size := (by omega); have e2' : w2.heap.size ≠ w.heap.size := (by omega); have e3' : w2.heap.size ≠ bu := (by omega)) | (go_at_call 57; (with_reducible refine (HII.out _ ((HR.out.below HL0.out hB).alloc (by omega) _).drew (by simp; omega) ((S1.out.below HBel.out (Nat.le_refl _)).alloc hz _).drew (by simp; omega)).mono ?_); rintro e w2 ⟨rfl, hb2'⟩; have PR2 := hide ((PR.out.alloc _).drew.belowH hb2'); have PX2 := hide ((Blk.new wr 79 #[.int .i64 0, .int .i64 0, .int .i64 0, .int .i64 0, .int .i64 0, .int .i64 0, .int .i64 0] (g := wr.heap.size) rfl).drew.belowH hb2'); have BB := hide ((((Below.refl wr.heap.size wr).alloc (Nat.le_refl _) _).drew).trans (hb2'.mono (by simp))); have L2 := hide (HBel.out.trans (BB.out.mono hz)); have hcc : ∀ b o, b < wr.heap.size → w2.cell? ⟨b, o, none⟩ = wr.cell? ⟨b, o, none⟩ := (fun b o h => BB.out.cell (p := ⟨b, o, none⟩) h); have z2 : wr.heap.size < w2.heap.size := PX2.out.lt; have kX := PX2.out.cell; have fX := PX2.out.frozen))
      have h1 : -9223372036854775808 ≤ S + y.gram := by omega
      have h2 : S + y.gram ≤ 9223372036854775807 := by omega
      all_goals go_wp2
      all_goals go_roundw
      all_goals first
        | exact ⟨k + 1, by omega, by go_num, by rw [hsn.out, HSS.out, HY.out]; try rfl, (by repeat (first | with_reducible exact PR2.out | with_reducible refine Blk.far ?_ (by simp <;> omega) _ | with_reducible refine Blk.alloc ?_ _)), (by repeat (first | with_reducible exact Below.refl _ _ | with_reducible assumption | with_reducible refine Below.setCell ?_ (by (try simp) <;> omega) _ | with_reducible refine Below.alloc ?_ (by (try simp) <;> omega) _ | with_reducible refine Below.drew ?_ | with_reducible refine below_drewN ?_ _ | with_reducible exact L2.out | with_reducible refine Below.trans ?_ (Below.mono L2.out (by (try simp) <;> omega))))⟩
        | (simp [intOf]; omega)
    · have hge : n ≤ k := by omega
      clear hlt
      have HT := hide (show us.take k = us from List.take_of_length_le (by rw [HL.out]; exact hge))
      go_wp2
      go_ret
      exact ⟨ret_int (by rw [HT.out]), HL0.out⟩
end Go.Proofs.YtbbcmldhdebolaaGreat
