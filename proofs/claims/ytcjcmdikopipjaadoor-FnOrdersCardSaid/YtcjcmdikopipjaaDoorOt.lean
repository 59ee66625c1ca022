/- A line of an order's text: l4Put of the reference, textLine of the program. -/
import Derived.Test.YtcjcmdikopipjaaDoorNum
import Derived.Test.YtcjcmdikopipjaaDoorStr
namespace Go.Proofs.YtcjcmdikopipjaaDoor
open Go.ChangeShapes Go.WideShapes Go.ChangeAt Go.RowKit Go.Deep Go.Joins
set_option linter.unusedVariables false
set_option linter.unusedSimpArgs false

def lineF (out : ByteArray) (n : Int) : ByteArray := (out ++ ⟨#[32]⟩) ++ digS n
/-- A line: the word and the numbers. -/
def lineS (word : ByteArray) (nums : List Int) : ByteArray := nums.foldl lineF word ++ ⟨#[10]⟩
def numsOk (nums : List Int) : Bool := nums.all fun n => inB n 0 999999
def lineR (word : ByteArray) (nums : List Int) : ByteArray := if numsOk nums then lineS word nums else ⟨#[]⟩
theorem digS_small {x : Int} (h : inB x 0 999999 = true) : (digS x).size ≤ 6 := by
  have h2 := (inB_iff _ _ _).1 h
  obtain ⟨n, rfl⟩ := Int.eq_ofNat_of_zero_le h2.1
  exact (numOk_size (numOk_of (s := digS (n : Int)) rfl (by omega)).1).2
theorem lineF_snoc {word : ByteArray} {nums : List Int} {k : Nat} {x : Int} (h : nums[k]? = some x) : (nums.take (k + 1)).foldl lineF word = lineF ((nums.take k).foldl lineF word) x := by
  rw [List.take_add_one, h, List.foldl_append]
  rfl
theorem numsOk_no {nums : List Int} {k : Nat} {x : Int} (h : nums[k]? = some x) (hx : inB x 0 999999 = false) : numsOk nums = false := by
  unfold numsOk
  rw [List.all_eq_false]
  exact ⟨x, List.mem_of_getElem? h, by simp [hx]⟩
set_option maxRecDepth 20000 in
set_option maxHeartbeats 1000000 in
theorem l4Put_any (word : ByteArray) (nums : List Int) (lo hi : Nat) (A : Option Addr) (n c : Nat) (w : World) (hs : SlK 1 encInt w lo hi A n c nums) (hB : hi ≤ w.heap.size) (hn : n ≤ 16) (hw : word.size ≤ 16) :
    Calls Tryd.prog 43 #[.string word, .slice A n c] w fun e w' => e = .returned (.tuple #[.string (lineR word nums), .bool (numsOk nums)]) ∧ Below w.heap.size w w' := by
  have hm := hs.max
  have hc := hs.cap
  have HL := hide hs.len
  have HS := hide hs
  clear hs
  go_enter Tryd.func43, Tryd.ntmps43
  go_wp2_with fail
  go_loopw [6, 7] (fun o i wr => ∃ k : Nat, k ≤ n ∧ i = .int .i64 k ∧ o = .string ((nums.take k).foldl lineF word) ∧ ((nums.take k).foldl lineF word).size ≤ 16 + 7 * k ∧ Hid (∀ x ∈ nums.take k, inB x 0 999999 = true) ∧ Below w.heap.size w wr) (fun _ i _ => n - (intOf i).toNat)
  case atStart => exact ⟨0, Nat.zero_le _, rfl, rfl, by simpa using hw, hide (by simp), Below.refl _ _⟩
  case round =>
    obtain ⟨k, hk, rfl, rfl, hsz, HA, hbel⟩ := hrel
    have HB := hide hbel
    have y1 := hbel.size
    clear hbel
    by_cases hlt : k < n
    · obtain ⟨b0, off, x, hx, rfl, _, hb0, c0, _⟩ := (HS.out.below HB.out hB).int hlt
      have i0 : (0 : Int) ≤ (k : Int) := by omega
      have i1 : (k : Int) < (n : Int) := by omega
      have HF := hide (lineF_snoc (word := word) hx)
      obtain ⟨J, hJ⟩ : ∃ J, (nums.take k).foldl lineF word = J := ⟨_, rfl⟩
      rw [hJ] at hsz HF ⊢
      obtain ⟨tb, htb⟩ : ∃ tb, inB x 0 999999 = tb := ⟨_, rfl⟩
      cases tb
      · have HNO := hide (numsOk_no hx htb)
        clear hx hJ
        go_wp2_with (go_at_call 41; refine (sin_any _ _ _ _).mono ?_; rw [htb]; rintro e w' ⟨rfl, rfl⟩)
        go_ret2
        exact ⟨by unfold lineR; rw [HNO.out]; rfl, HB.out⟩
      · have HT := hide (show ∀ y ∈ nums.take (k + 1), inB y 0 999999 = true from by
          rw [List.take_add_one, hx]
          intro y hy
          rw [List.mem_append] at hy
          rcases hy with hy | hy
          · exact HA.out y hy
          · have : y = x := by simpa using hy
            rw [this, htb])
        have hd6 := digS_small htb
        have hx2 := (inB_iff _ _ _).1 htb
        have hj1 : J.size ≤ 9223372036854775000 := by omega
        have hsp : (ByteArray.mk #[32]).size = 1 := rfl
        have hj2 : (J ++ ByteArray.mk #[32]).size ≤ 9223372036854775000 := by rw [ByteArray.size_append, hsp]; omega
        have HJ2 := hide (show (lineF J x).size ≤ 16 + 7 * (k + 1) by unfold lineF; rw [ByteArray.size_append, ByteArray.size_append, hsp]; omega)
        clear hx hJ
        go_wp2_with (go_at_call 41; refine (sin_any _ _ _ _).mono ?_; rw [htb]; rintro e w' ⟨rfl, rfl⟩)
        refine (sdigits_any x _ (by omega) (by omega)).mono ?_
        rintro e w2 ⟨rfl, hb2⟩
        have HB2 := hide (HB.out.trans (hb2.mono y1))
        have HLF := hide (show lineF J x = (J ++ ByteArray.mk #[32]) ++ digS x from rfl)
        generalize digS x = D at *
        clear hb2
        go_wp2_with fail
        go_roundw
        case rel => exact ⟨k + 1, by omega, by go_num, by rw [HF.out, HLF.out], by rw [HF.out]; exact HJ2.out, HT, HB2.out⟩
        case measure => simp [intOf]; omega
    · obtain rfl : k = n := by omega
      have hall : nums.take k = nums := List.take_of_length_le (by rw [HL.out]; exact Nat.le_refl _)
      rw [hall] at hsz HA ⊢
      have HOK := hide (show numsOk nums = true by unfold numsOk; rw [List.all_eq_true]; exact HA.out)
      have HLS := hide (show lineS word nums = nums.foldl lineF word ++ ⟨#[10]⟩ from rfl)
      obtain ⟨J, hJ⟩ : ∃ J, nums.foldl lineF word = J := ⟨_, rfl⟩
      rw [hJ] at hsz HLS ⊢
      have hj1 : J.size ≤ 9223372036854775000 := by omega
      clear hlt hall hJ
      go_wp2_with fail
      go_ret2
      exact ⟨by unfold lineR; rw [HOK.out, if_pos rfl, HLS.out]; rfl, HB.out⟩
set_option maxRecDepth 20000 in
set_option maxHeartbeats 1000000 in
theorem textLine_any (word : ByteArray) (nums : List Int) (lo hi : Nat) (A : Option Addr) (n c : Nat) (w : World) (hs : SlK 1 encInt w lo hi A n c nums) (hB : hi ≤ w.heap.size) (hn : n ≤ 16) (hw : word.size ≤ 16) (htab : Lib.TabIs Tryd.prog w "internal/strconv.uint64pow10" .u64 Lib.pow10Tab) :
    Calls Tryd.prog 49 #[.string word, .slice A n c] w fun e w' => e = .returned (.tuple #[.string (lineR word nums), .bool (numsOk nums)]) ∧ Below w.heap.size w w' := by
  have hm := hs.max
  have hc := hs.cap
  have HL := hide hs.len
  have HS := hide hs
  have HT0 := hide htab
  clear hs htab
  go_enter Tryd.func49, Tryd.ntmps49
  go_wp2_with fail
  go_loopw [6, 12] (fun o i wr => ∃ k : Nat, k ≤ n ∧ i = .int .i64 k ∧ o = .string ((nums.take k).foldl lineF word) ∧ ((nums.take k).foldl lineF word).size ≤ 16 + 7 * k ∧ Hid (∀ x ∈ nums.take k, inB x 0 999999 = true) ∧ Below w.heap.size w wr) (fun _ i _ => n - (intOf i).toNat)
  case atStart => exact ⟨0, Nat.zero_le _, rfl, rfl, by simpa using hw, hide (by simp), Below.refl _ _⟩
  case round =>
    obtain ⟨k, hk, rfl, rfl, hsz, HA, hbel⟩ := hrel
    have HB := hide hbel
    have y1 := hbel.size
    clear hbel
    by_cases hlt : k < n
    · obtain ⟨b0, off, x, hx, rfl, _, hb0, c0, _⟩ := (HS.out.below HB.out hB).int hlt
      have i0 : (0 : Int) ≤ (k : Int) := by omega
      have i1 : (k : Int) < (n : Int) := by omega
      have HF := hide (lineF_snoc (word := word) hx)
      obtain ⟨J, hJ⟩ : ∃ J, (nums.take k).foldl lineF word = J := ⟨_, rfl⟩
      rw [hJ] at hsz HF ⊢
      obtain ⟨tb, htb⟩ : ∃ tb, inB x 0 999999 = tb := ⟨_, rfl⟩
      cases tb
      · have HNO := hide (numsOk_no hx htb)
        clear hx hJ
        go_wp2_with (go_at_call 37; refine (in_any _ _ _ _).mono ?_; rw [htb]; rintro e w' ⟨rfl, rfl⟩)
        go_ret2
        exact ⟨by unfold lineR; rw [HNO.out]; rfl, HB.out⟩
      · have HT := hide (show ∀ y ∈ nums.take (k + 1), inB y 0 999999 = true from by
          rw [List.take_add_one, hx]
          intro y hy
          rw [List.mem_append] at hy
          rcases hy with hy | hy
          · exact HA.out y hy
          · have : y = x := by simpa using hy
            rw [this, htb])
        have hd6 := digS_small htb
        have hx2 := (inB_iff _ _ _).1 htb
        have hj1 : J.size ≤ 9223372036854775000 := by omega
        have hsp : (ByteArray.mk #[32]).size = 1 := rfl
        have hj2 : (ByteArray.mk #[32] ++ digS x).size ≤ 9223372036854775000 := by rw [ByteArray.size_append, hsp]; omega
        have hj3 : J.size + (ByteArray.mk #[32] ++ digS x).size ≤ 9223372036854775000 := by rw [ByteArray.size_append, hsp]; omega
        have HLF := hide (show lineF J x = J ++ (ByteArray.mk #[32] ++ digS x) from by unfold lineF; rw [ByteArray.append_assoc])
        have HJ2 := hide (show (lineF J x).size ≤ 16 + 7 * (k + 1) by unfold lineF; rw [ByteArray.size_append, ByteArray.size_append, hsp]; omega)
        clear hx hJ
        go_wp2_with (go_at_call 37; refine (in_any _ _ _ _).mono ?_; rw [htb]; rintro e w' ⟨rfl, rfl⟩)
        refine (digits_any x _ (by omega) (by omega) (tab_stays gPow HT0.out HB.out (Nat.le_refl _))).mono ?_
        rintro e w2 ⟨rfl, hb2⟩
        have HB2 := hide (HB.out.trans (hb2.mono y1))
        generalize digS x = D at *
        clear hb2
        go_wp2_with fail
        go_roundw
        case rel => exact ⟨k + 1, by omega, by go_num, by rw [HF.out, HLF.out], by rw [HF.out]; exact HJ2.out, HT, HB2.out⟩
        case measure => simp [intOf]; omega
    · obtain rfl : k = n := by omega
      have hall : nums.take k = nums := List.take_of_length_le (by rw [HL.out]; exact Nat.le_refl _)
      rw [hall] at hsz HA ⊢
      have HOK := hide (show numsOk nums = true by unfold numsOk; rw [List.all_eq_true]; exact HA.out)
      have HLS := hide (show lineS word nums = nums.foldl lineF word ++ ⟨#[10]⟩ from rfl)
      obtain ⟨J, hJ⟩ : ∃ J, nums.foldl lineF word = J := ⟨_, rfl⟩
      rw [hJ] at hsz HLS ⊢
      have hj1 : J.size ≤ 9223372036854775000 := by omega
      clear hlt hall hJ
      go_wp2_with fail
      go_ret2
      exact ⟨by unfold lineR; rw [HOK.out, if_pos rfl, HLS.out]; rfl, HB.out⟩
set_option maxRecDepth 20000 in
set_option maxHeartbeats 1000000 in
theorem put_any (word : ByteArray) (nums : List Int) (lo hi : Nat) (A : Option Addr) (n c : Nat) (Ob Gb base : Nat) (g0 : Bool) (v : Value) (xs : List ByteArray) (w : World) (hs : SlK 1 encInt w lo hi A n c nums) (hB : hi ≤ w.heap.size) (hn : n ≤ 16) (hw : word.size ≤ 16)
    (htab : Lib.TabIs Tryd.prog w "internal/strconv.uint64pow10" .u64 Lib.pow10Tab) (hg : Blk w Gb 4 #[.bool g0]) (ho : Blk w Ob 50 #[v]) (hown : Own 1 encStr 9 w base v xs) (hsep : ∀ z, v.ownBlock = some z → z = base ∨ Gb < z) (h1 : base < Ob) (h2 : Ob < Gb) (hxl : xs.length ≤ 4194304) :
    Calls Tryd.prog 48 #[.string word, .slice A n c, .pointer (some ⟨Gb, 0, none⟩), .pointer (some ⟨Ob, 0, none⟩)] w fun e w' => ∃ v', e = .returned (.tuple #[]) ∧ Blk w' Gb 4 #[.bool (g0 && numsOk nums)] ∧ Blk w' Ob 50 #[v'] ∧
      Own 1 encStr 9 w' base v' (xs ++ [lineR word nums]) ∧ (∀ z, v'.ownBlock = some z → z = base ∨ Gb < z) ∧ Below base w w' := by
  have hGl := hg.lt
  have HT := hide (textLine_any word nums lo hi A n c w hs hB hn hw htab)
  have HG := hide hg
  have HO := hide ho
  have HW := hide hown
  have HSP := hide hsep
  clear hs htab hg ho hown hsep
  go_enter Tryd.func48, Tryd.ntmps48
  go_wp2_with fail
  refine HT.out.mono ?_
  rintro e w1 ⟨rfl, hb1⟩
  have z1 := hb1.size
  have HG1 := hide (HG.out.belowH hb1)
  have HO1 := hide (HO.out.belowH hb1)
  have HW1 := hide (HW.out.below hb1)
  have L1 := hide (hb1.mono (show base ≤ w.heap.size by omega))
  have kG := HG1.out.cell
  have fG := HG1.out.frozen
  have kO := HO1.out.cell
  have fO := HO1.out.frozen
  have hne : Gb ≠ Ob := by omega
  have hne2 : Ob ≠ Gb := by omega
  obtain ⟨ok, hok⟩ : ∃ b, numsOk nums = b := ⟨_, rfl⟩
  obtain ⟨ln, hln⟩ : ∃ b, lineR word nums = b := ⟨_, rfl⟩
  rw [hok, hln]
  have HOK := hide hok
  have HLN := hide hln
  clear hb1 HT HG HO HW hok hln
  cases g0
  · have HWs := hide (HW1.out.grown (grown_set w1 Gb 0 (.bool false)) (by
      rcases hq : v.ownBlock with _ | z
      · exact .inl rfl
      · refine .inr fun e => ?_
        have := Option.some.inj e
        rcases HSP.out z hq with h | h <;> omega))
    have hap := app1s HWs.out (by simp; omega) hxl ln
    simp only [World.size_setCell] at hap
    have HAP := hide hap
    clear hap
    go_wp2_with (at_builtin; refine wpList_app rfl _ _ rfl rfl rfl HAP.out ?_; intro v2 w2 ho2 hg2 hat2; have hbl : ∀ z, v.ownBlock = some z → z = base ∨ Gb < z := HSP.out; have hGn : some Gb ≠ v.ownBlock := (fun e => by rcases hbl _ e.symm with h | h <;> omega); have hOn : some Ob ≠ v.ownBlock := (fun e => by rcases hbl _ e.symm with h | h <;> omega); have HG2 := hide (((HG1.out.set_ 0 (.bool false)).alloc (.cells #[.string ln] 9)).grown hg2 hGn); have HO2 := hide (((HO1.out.far (p := ⟨Gb, 0, none⟩) hne2 (.bool false)).alloc (.cells #[.string ln] 9)).grown hg2 hOn); obtain ⟨m2, hm2⟩ : ∃ m2, (xs ++ [ln]).length = m2 := ⟨_, rfl⟩; obtain ⟨A2, c2, rfl, s2'⟩ := Own.slk' encStr_len hm2 ho2; clear s2'; have HM2 := hide hm2; clear hm2; have HV2 := hide ho2; have HAT2 := hide (show (Value.slice A2 m2 c2).ownBlock = v.ownBlock ∨ (Value.slice A2 m2 c2).ownBlock = some (w1.heap.size + 1) from (hat2.elim (fun h => .inl h) (fun h => .inr (h.trans (by simp))))); have L2 := hide (((L1.out.setCell (p := ⟨Gb, 0, none⟩) (by show base ≤ Gb; omega) (.bool false)).alloc (by simp; omega) (.cells #[.string ln] 9)).grown hg2 (by simp; omega) (fun z hz => by rcases hbl _ hz with h | h <;> omega)); have z2 := hg2.size; simp only [World.size_alloc, World.size_setCell] at z2; clear ho2 hg2 hat2 kG fG kO fO; have kO := HO2.out.cell; have fO := HO2.out.frozen; have yO := HO2.out.lt)
    go_end0
    have hv2 : ∀ z, (Value.slice A2 m2 c2).ownBlock = some z → z = base ∨ Gb < z := fun z hz => by
      rcases HAT2.out with h | h
      · exact HSP.out z (by rw [← h]; exact hz)
      · rw [h] at hz
        have := Option.some.inj hz
        omega
    rw [HOK.out, HLN.out]
    refine ⟨_, rfl, ?_, ?_, ?_, hv2, L2.out.setCell (p := ⟨Ob, 0, none⟩) (by show base ≤ Ob; omega) _⟩
    · have := HG2.out.far (p := ⟨Ob, 0, none⟩) hne (Value.slice A2 m2 c2)
      simpa using this
    · have := HO2.out.set_ 0 (Value.slice A2 m2 c2)
      simpa using this
    · exact HV2.out.grown (grown_set w2 Ob 0 _) (by
        rcases hq : (Value.slice A2 m2 c2).ownBlock with _ | z
        · exact .inl rfl
        · refine .inr fun e => ?_
          have := Option.some.inj e
          rcases hv2 z hq with h | h <;> omega)
  · have HWs := hide (HW1.out.grown (grown_set w1 Gb 0 (.bool ok)) (by
      rcases hq : v.ownBlock with _ | z
      · exact .inl rfl
      · refine .inr fun e => ?_
        have := Option.some.inj e
        rcases HSP.out z hq with h | h <;> omega))
    have hap := app1s HWs.out (by simp; omega) hxl ln
    simp only [World.size_setCell] at hap
    have HAP := hide hap
    clear hap
    go_wp2_with (at_builtin; refine wpList_app rfl _ _ rfl rfl rfl HAP.out ?_; intro v2 w2 ho2 hg2 hat2; have hbl : ∀ z, v.ownBlock = some z → z = base ∨ Gb < z := HSP.out; have hGn : some Gb ≠ v.ownBlock := (fun e => by rcases hbl _ e.symm with h | h <;> omega); have hOn : some Ob ≠ v.ownBlock := (fun e => by rcases hbl _ e.symm with h | h <;> omega); have HG2 := hide (((HG1.out.set_ 0 (.bool ok)).alloc (.cells #[.string ln] 9)).grown hg2 hGn); have HO2 := hide (((HO1.out.far (p := ⟨Gb, 0, none⟩) hne2 (.bool ok)).alloc (.cells #[.string ln] 9)).grown hg2 hOn); obtain ⟨m2, hm2⟩ : ∃ m2, (xs ++ [ln]).length = m2 := ⟨_, rfl⟩; obtain ⟨A2, c2, rfl, s2'⟩ := Own.slk' encStr_len hm2 ho2; clear s2'; have HM2 := hide hm2; clear hm2; have HV2 := hide ho2; have HAT2 := hide (show (Value.slice A2 m2 c2).ownBlock = v.ownBlock ∨ (Value.slice A2 m2 c2).ownBlock = some (w1.heap.size + 1) from (hat2.elim (fun h => .inl h) (fun h => .inr (h.trans (by simp))))); have L2 := hide (((L1.out.setCell (p := ⟨Gb, 0, none⟩) (by show base ≤ Gb; omega) (.bool ok)).alloc (by simp; omega) (.cells #[.string ln] 9)).grown hg2 (by simp; omega) (fun z hz => by rcases hbl _ hz with h | h <;> omega)); have z2 := hg2.size; simp only [World.size_alloc, World.size_setCell] at z2; clear ho2 hg2 hat2 kG fG kO fO; have kO := HO2.out.cell; have fO := HO2.out.frozen; have yO := HO2.out.lt)
    go_end0
    have hv2 : ∀ z, (Value.slice A2 m2 c2).ownBlock = some z → z = base ∨ Gb < z := fun z hz => by
      rcases HAT2.out with h | h
      · exact HSP.out z (by rw [← h]; exact hz)
      · rw [h] at hz
        have := Option.some.inj hz
        omega
    rw [HOK.out, HLN.out]
    refine ⟨_, rfl, ?_, ?_, ?_, hv2, L2.out.setCell (p := ⟨Ob, 0, none⟩) (by show base ≤ Ob; omega) _⟩
    · have := HG2.out.far (p := ⟨Ob, 0, none⟩) hne (Value.slice A2 m2 c2)
      simpa using this
    · have := HO2.out.set_ 0 (Value.slice A2 m2 c2)
      simpa using this
    · exact HV2.out.grown (grown_set w2 Ob 0 _) (by
        rcases hq : (Value.slice A2 m2 c2).ownBlock with _ | z
        · exact .inl rfl
        · refine .inr fun e => ?_
          have := Option.some.inj e
          rcases hv2 z hq with h | h <;> omega)
end Go.Proofs.YtcjcmdikopipjaaDoor
