/- LowerGreat of both. -/
import Derived.Test.YtbbcmldhdebolaaGreatLo
namespace Go.Proofs.YtbbcmldhdebolaaGreat
open Go.ChangeShapes Go.WideShapes Go.ChangeAt Go.RowKit Go.Deep
set_option linter.unusedVariables false
set_option linter.unusedSimpArgs false

def bitI (b : Bool) : Int := if b then 1 else 0
def grB (M : Int) (x : It) : Bool := decide (M < 2 * volI x)
def hvB (G : Int) (x : It) : Bool := decide (G < 2 * x.gram)
/-- How many of the items take more than half the volume, the weight. -/
def greatC (M : Int) (xs : List It) : Int := (xs.map fun x => bitI (grB M x)).sum
def heavyC (G : Int) (xs : List It) : Int := (xs.map fun x => bitI (hvB G x)).sum
def greatU (r : Rq) (M : Int) (us : List Int) : Int := (us.map fun u => bitI (grB M (itD (unitIt r u)))).sum
def heavyU (r : Rq) (G : Int) (us : List Int) : Int := (us.map fun u => bitI (hvB G (itD (unitIt r u)))).sum
theorem great_snoc {M : Int} {xs : List It} {k : Nat} {x : It} (hx : xs[k]? = some x) : greatC M (xs.take (k + 1)) = greatC M (xs.take k) + bitI (grB M x) := by
  unfold greatC
  rw [List.take_add_one, hx]
  simp
theorem heavy_snoc {M : Int} {xs : List It} {k : Nat} {x : It} (hx : xs[k]? = some x) : heavyC M (xs.take (k + 1)) = heavyC M (xs.take k) + bitI (hvB M x) := by
  unfold heavyC
  rw [List.take_add_one, hx]
  simp
theorem greatU_snoc {r : Rq} {M : Int} {us : List Int} {k : Nat} {u : Int} (hx : us[k]? = some u) : greatU r M (us.take (k + 1)) = greatU r M (us.take k) + bitI (grB M (itD (unitIt r u))) := by
  unfold greatU
  rw [List.take_add_one, hx]
  simp
theorem heavyU_snoc {r : Rq} {M : Int} {us : List Int} {k : Nat} {u : Int} (hx : us[k]? = some u) : heavyU r M (us.take (k + 1)) = heavyU r M (us.take k) + bitI (hvB M (itD (unitIt r u))) := by
  unfold heavyU
  rw [List.take_add_one, hx]
  simp
theorem bitI_bd (b : Bool) : 0 ≤ bitI b ∧ bitI b ≤ 1 := by cases b <;> simp [bitI]
theorem sum_bits {α : Type} (f : α → Bool) : ∀ xs : List α, 0 ≤ (xs.map fun x => bitI (f x)).sum ∧ (xs.map fun x => bitI (f x)).sum ≤ xs.length
  | [] => by simp
  | x :: xs => by
    have ih := sum_bits f xs
    have hb := bitI_bd (f x)
    simp only [List.map_cons, List.sum_cons, List.length_cons]
    omega
theorem greatU_eq (r : Rq) {M : Int} (hM : 0 ≤ M) : ∀ us, greatU r M us = greatC M (itemsOfL r us)
  | [] => rfl
  | u :: us => by
    have ih := greatU_eq r hM us
    have e : greatU r M (u :: us) = bitI (grB M (itD (unitIt r u))) + greatU r M us := by simp [greatU]
    rw [e, ih]
    unfold itemsOfL
    cases hq : unitIt r u with
    | none =>
      have : grB M it0 = false := by unfold grB; rw [volI_0]; simp; omega
      rw [List.filterMap_cons_none hq]
      simp only [itD, Option.getD_none, this]
      simp [bitI]
    | some x =>
      rw [List.filterMap_cons_some hq]
      simp only [itD, Option.getD_some, greatC, List.map_cons, List.sum_cons]
theorem heavyU_eq (r : Rq) {M : Int} (hM : 0 ≤ M) : ∀ us, heavyU r M us = heavyC M (itemsOfL r us)
  | [] => rfl
  | u :: us => by
    have ih := heavyU_eq r hM us
    have e : heavyU r M (u :: us) = bitI (hvB M (itD (unitIt r u))) + heavyU r M us := by simp [heavyU]
    rw [e, ih]
    unfold itemsOfL
    cases hq : unitIt r u with
    | none =>
      have : hvB M it0 = false := by unfold hvB; simp [it0]; omega
      rw [List.filterMap_cons_none hq]
      simp only [itD, Option.getD_none, this]
      simp [bitI]
    | some x =>
      rw [List.filterMap_cons_some hq]
      simp only [itD, Option.getD_some, heavyC, List.map_cons, List.sum_cons]
def maxB (a b : Int) : Int := if b < a then a else b
def lowGr (r : Rq) (us : List Int) : Int := if classN r = 0 then maxB (greatU r (vol (masterTy r).w (masterTy r).h (masterTy r).d) us) (heavyU r (masterTy r).gram us) else 0
set_option maxRecDepth 20000 in
set_option maxHeartbeats 4000000 in
theorem lowGr_any (r : Rq) (A1 A2 A3 : Option Addr) (n1 n2 n3 c1 c2 c3 : Nat) (lo hi : Nat) (lo2 hi2 : Nat) (A : Option Addr) (n c : Nat) (us : List Int) (w : World) (hr : RqAt w lo hi r A1 n1 c1 A2 n2 c2 A3 n3 c3) (hB : hi ≤ w.heap.size) (hs : SlK 1 encInt w lo2 hi2 A n c us) (hB2 : hi2 ≤ w.heap.size) (hn : n ≤ 1048580) :
    Calls Tryz.prog 17 #[.agg #[.int .i64 r.way, .int .i64 r.pal.w, .int .i64 r.pal.d, .int .i64 r.pal.h, .int .i64 r.pal.gram, .int .i64 r.cls, .slice A1 n1 c1, .slice A2 n2 c2, .int .i64 r.master, .slice A3 n3 c3], .slice A n c] w fun e w' => e = .returned (.int .i64 (lowGr r us)) ∧ Below w.heap.size w w' := by
  have HSo := hide (sound_any r A1 A2 A3 n1 n2 n3 c1 c2 c3 lo hi)
  have HR := hide hr
  have HS := hide hs
  have HLU := hide hs.len
  clear hr hs
  by_cases h0 : classN r = 0
  case neg =>
    have HF := hide (show lowGr r us = 0 by simp [lowGr, h0])
    have hd : decide (classN r = 0) = false := by simp [h0]
    rw [hd] at HSo
    clear hd h0
    go_enter Tryz.func17, Tryz.ntmps17
    go_wp2_with fail
    refine (HSo.out _ (HR.out.below (B := w.heap.size) (by repeat (first | with_reducible exact Below.refl _ _ | with_reducible assumption | with_reducible refine Below.setCell ?_ (by (try simp) <;> omega) _ | with_reducible refine Below.alloc ?_ (by (try simp) <;> omega) _ | with_reducible refine Below.drew ?_ | with_reducible refine below_drewN ?_ _)) hB) (by (try simp) <;> omega)).mono ?_
    rintro e w1 ⟨rfl, hb1⟩
    go_wp2
    go_ret
    exact ⟨ret_int HF.out.symm, (by repeat (first | with_reducible exact Below.refl _ _ | with_reducible assumption | with_reducible refine Below.setCell ?_ (by (try simp) <;> omega) _ | with_reducible refine Below.alloc ?_ (by (try simp) <;> omega) _ | with_reducible refine Below.drew ?_ | with_reducible refine below_drewN ?_ _ | with_reducible exact hb1 | with_reducible refine Below.trans ?_ (Below.mono hb1 (by (try simp) <;> omega))))⟩
  have hv := typeOk_vol (master_ok h0)
  have hg := (typeOk_bd (master_ok h0)).2.2.2.2.1
  have HF := hide (show lowGr r us = maxB (greatU r (vol (masterTy r).w (masterTy r).h (masterTy r).d) us) (heavyU r (masterTy r).gram us) by simp [lowGr, h0])
  rw [greatU_eq r (by omega), heavyU_eq r (by omega)] at HF
  have hd : decide (classN r = 0) = true := by simp [h0]
  rw [hd] at HSo
  have HMR := hide (masterRoom_any r A1 A2 A3 n1 n2 n3 c1 c2 c3 lo hi)
  have HI := hide (itemsOf_any r A1 A2 A3 n1 n2 n3 c1 c2 c3 lo hi lo2 hi2 A n c us)
  have HLI := hide (show (itemsOfL r us).length ≤ n by have := itemsOf_len r us; rw [HLU.out] at this; exact this)
  have HOK := hide (fun (x : It) (hx : x ∈ itemsOfL r us) => itemsOf_ok hx)
  obtain ⟨M, hM⟩ : ∃ M, vol (masterTy r).w (masterTy r).h (masterTy r).d = M := ⟨_, rfl⟩
  obtain ⟨G, hG⟩ : ∃ G, (masterTy r).gram = G := ⟨_, rfl⟩
  rw [hM] at hv HMR HF
  rw [hG] at hg HMR HF
  obtain ⟨m, hm⟩ : ∃ m, (itemsOfL r us).length = m := ⟨_, rfl⟩
  rw [hm] at HLI
  have HM := hide hm
  have hmn : m ≤ n := HLI.out
  clear hd h0 hM hG hm
  generalize itemsOfL r us = xs at *
  go_enter Tryz.func17, Tryz.ntmps17
  go_wp2_with fail
  refine (HSo.out _ (HR.out.below (B := w.heap.size) (by repeat (first | with_reducible exact Below.refl _ _ | with_reducible assumption | with_reducible refine Below.setCell ?_ (by (try simp) <;> omega) _ | with_reducible refine Below.alloc ?_ (by (try simp) <;> omega) _ | with_reducible refine Below.drew ?_ | with_reducible refine below_drewN ?_ _)) hB) (by (try simp) <;> omega)).mono ?_
  rintro e w1 ⟨rfl, hb1⟩
  have L1 := hide (show Below w.heap.size w w1 from (by repeat (first | with_reducible exact Below.refl _ _ | with_reducible assumption | with_reducible refine Below.setCell ?_ (by (try simp) <;> omega) _ | with_reducible refine Below.alloc ?_ (by (try simp) <;> omega) _ | with_reducible refine Below.drew ?_ | with_reducible refine below_drewN ?_ _ | with_reducible exact hb1 | with_reducible refine Below.trans ?_ (Below.mono hb1 (by (try simp) <;> omega)))))
  have P1 := hide (Blk.belowH (Blk.new w 37 (#[.int .i64 r.way, .int .i64 r.pal.w, .int .i64 r.pal.d, .int .i64 r.pal.h, .int .i64 r.pal.gram, .int .i64 r.cls, .slice A1 n1 c1, .slice A2 n2 c2, .int .i64 r.master, .slice A3 n3 c3]) (g := w.heap.size) (by simp)) hb1)
  have z1 : w.heap.size + 1 ≤ w1.heap.size := by simpa using hb1.size
  clear hb1
  have kR := P1.out.cell
  have yR := P1.out.lt
  go_wp2_with fail
  refine (HMR.out _ (HR.out.below L1.out hB) (by (try simp) <;> omega)).mono ?_
  rintro e w2 ⟨rfl, hb2⟩
  have L2 := hide (L1.out.trans (hb2.mono (by omega)))
  have P2 := hide (Blk.belowH P1.out hb2)
  have z2 : w1.heap.size ≤ w2.heap.size := hb2.size
  clear hb2 kR yR P1
  have kR := P2.out.cell
  have yR := P2.out.lt
  go_wp2_with fail
  refine (HI.out _ (HR.out.below L2.out hB) (by (try simp) <;> omega) (HS.out.below L2.out hB2) (by (try simp) <;> omega) hn).mono ?_
  rintro e w3 ⟨v3, rfl, ho3, hb3⟩
  have L3 := hide (L2.out.trans (hb3.mono (by omega)))
  obtain ⟨A3', c3', rfl, s3⟩ := Own.slk' encIt_len HM.out ho3
  have S3 := hide s3
  have hcm := s3.cap
  have hcx := s3.max
  have z3 : w2.heap.size ≤ w3.heap.size := hb3.size
  clear hb3 ho3 s3 kR yR
  go_wp2
  go_loopw [7, 8, 23] (fun a b i wr => ∃ k : Nat, k ≤ m ∧ i = .int .i64 k ∧ a = .int .i64 (greatC M (xs.take k)) ∧ b = .int .i64 (heavyC G (xs.take k)) ∧ Below w3.heap.size w3 wr) (fun _ _ i _ => m - (intOf i).toNat)
  case atStart => exact ⟨0, Nat.zero_le _, rfl, rfl, rfl, (by repeat (first | with_reducible exact Below.refl _ _ | with_reducible assumption | with_reducible refine Below.setCell ?_ (by (try simp) <;> omega) _ | with_reducible refine Below.alloc ?_ (by (try simp) <;> omega) _ | with_reducible refine Below.drew ?_ | with_reducible refine below_drewN ?_ _))⟩
  case round =>
    obtain ⟨k, hk, rfl, rfl, rfl, hbel⟩ := hrel
    have HBel := hide hbel
    have hz := hbel.size
    have hlen : (xs.take k).length ≤ k := List.length_take_le _ _
    have B1 := sum_bits (grB M) (xs.take k)
    have B2 := sum_bits (hvB G) (xs.take k)
    change 0 ≤ greatC M (xs.take k) ∧ greatC M (xs.take k) ≤ _ at B1
    change 0 ≤ heavyC G (xs.take k) ∧ heavyC G (xs.take k) ≤ _ at B2
    have b1 : 0 ≤ greatC M (xs.take k) := B1.1
    have b2 : greatC M (xs.take k) ≤ 1048580 := by have := B1.2; omega
    have b3 : 0 ≤ heavyC G (xs.take k) := B2.1
    have b4 : heavyC G (xs.take k) ≤ 1048580 := by have := B2.2; omega
    clear hbel B1 B2
    by_cases hlt : k < m
    · obtain ⟨b0, off, x, hx, q, _, hb, d0, d1, d2, d3, d4, d5, d6, _⟩ := (S3.out.below HBel.out (Nat.le_refl _)).it hlt
      subst q
      have HX := hide hx
      have hsn1 := hide (great_snoc (M := M) hx)
      have hsn2 := hide (heavy_snoc (M := G) hx)
      have hv1 := (volI_bd x).1
      have hv2 := (volI_bd x).2
      have hg1 := (itemOk_gram (HOK.out x (List.mem_of_getElem? hx))).1
      have hg2 := (itemOk_gram (HOK.out x (List.mem_of_getElem? hx))).2
      have i0 : (0 : Int) ≤ (k : Int) := by omega
      have i1 : (k : Int) < (m : Int) := by omega
      have z0 : b0 < wr.heap.size := by omega
      clear hx
      have HVo := hide (vol_any x.w x.h x.d)
      obtain ⟨V, hV⟩ : ∃ V, volI x = V := ⟨_, rfl⟩
      have hV' : vol x.w x.h x.d = V := hV
      have hVV := hide hV
      rw [hV] at hv1 hv2
      rw [hV'] at HVo
      obtain ⟨a, ha⟩ : ∃ S, greatC M (xs.take k) = S := ⟨_, rfl⟩
      obtain ⟨b, hb'⟩ : ∃ S, heavyC G (xs.take k) = S := ⟨_, rfl⟩
      rw [ha] at b1 b2 hsn1 ⊢
      rw [hb'] at b3 b4 hsn2 ⊢
      clear hV hV' ha hb'
      have h1 : -9223372036854775808 ≤ 2 * V := by omega
      have h2 : 2 * V ≤ 9223372036854775807 := by omega
      have h3 : -9223372036854775808 ≤ 2 * x.gram := by omega
      have h4 : 2 * x.gram ≤ 9223372036854775807 := by omega
      have hp1 : decide (M < 2 * V) = grB M x := by unfold grB; rw [hVV.out]
      have hp2 : decide (G < 2 * x.gram) = hvB G x := rfl
      obtain ⟨p1, hq1⟩ : ∃ p, grB M x = p := ⟨_, rfl⟩
      obtain ⟨p2, hq2⟩ : ∃ p, hvB G x = p := ⟨_, rfl⟩
      rw [hq1] at hsn1 hp1
      rw [hq2] at hsn2 hp2
      clear hq1 hq2
      cases p1 <;> cases p2
      all_goals (
        go_wp2_with fail
        refine (HVo.out _).mono ?_
        rintro e w' ⟨rfl, rfl⟩
        go_wp2
        go_roundw
        case rel => exact ⟨k + 1, by omega, by go_num, by rw [hsn1.out]; simp [bitI], by rw [hsn2.out]; simp [bitI], (by repeat (first | with_reducible exact Below.refl _ _ | with_reducible assumption | with_reducible refine Below.setCell ?_ (by (try simp) <;> omega) _ | with_reducible refine Below.alloc ?_ (by (try simp) <;> omega) _ | with_reducible refine Below.drew ?_ | with_reducible refine below_drewN ?_ _ | with_reducible exact HBel.out | with_reducible refine Below.trans ?_ (Below.mono HBel.out (by (try simp) <;> omega))))⟩
        case measure => simp [intOf]; omega)
    · have hge : m ≤ k := by omega
      have HT := hide (show xs.take k = xs from List.take_of_length_le (by rw [HM.out]; exact hge))
      clear hlt
      obtain ⟨a, ha⟩ : ∃ S, greatC M (xs.take k) = S := ⟨_, rfl⟩
      obtain ⟨b, hb'⟩ : ∃ S, heavyC G (xs.take k) = S := ⟨_, rfl⟩
      rw [HT.out] at ha hb' ⊢
      rw [ha, hb'] at HF ⊢
      clear ha hb'
      go_wp2
      go_ret
      exact ⟨ret_int (by rw [HF.out]; unfold maxB; split <;> omega), (by repeat (first | with_reducible exact Below.refl _ _ | with_reducible assumption | with_reducible refine Below.setCell ?_ (by (try simp) <;> omega) _ | with_reducible refine Below.alloc ?_ (by (try simp) <;> omega) _ | with_reducible refine Below.drew ?_ | with_reducible refine below_drewN ?_ _ | with_reducible exact L3.out | with_reducible exact HBel.out | with_reducible refine Below.trans ?_ (Below.mono L3.out (by (try simp) <;> omega)) | with_reducible refine Below.trans ?_ (Below.mono HBel.out (by (try simp) <;> omega))))⟩
end Go.Proofs.YtbbcmldhdebolaaGreat
