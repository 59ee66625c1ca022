/- Number of both. -/
import Derived.Test.YtcjcmdikopipjaaDoorLdd
namespace Go.Proofs.YtcjcmdikopipjaaDoor
open Go.ChangeShapes Go.WideShapes Go.ChangeAt Go.RowKit Go.Deep Go.Joins
set_option linter.unusedVariables false
set_option linter.unusedSimpArgs false

def isDig (c : UInt8) : Prop := 48 ≤ c.toNat ∧ c.toNat ≤ 57
def valF (a : Nat) (l : List UInt8) : Nat := l.foldl (fun a c => 10 * a + (c.toNat - 48)) a
/-- The number that a string's digits make. -/
def valS (s : ByteArray) : Nat := valF 0 s.data.toList
theorem valF_app (a : Nat) (l m : List UInt8) : valF a (l ++ m) = valF (valF a l) m := by
  unfold valF
  rw [List.foldl_append]
theorem dig_of (k : Nat) (h : k < 10) : (UInt8.ofNat (48 + k)).toNat = 48 + k := by
  have h1 : (UInt8.ofNat (48 + k)).toNat = (48 + k) % 256 := UInt8.toNat_ofNat'
  omega
theorem decD_step {n : Nat} (h : ¬ n < 10) : Lib.decDigits n = Lib.decDigits (n / 10) ++ [UInt8.ofNat (48 + n % 10)] := by
  rw [Lib.decDigits, dif_neg h]
theorem val_dec (n : Nat) : valF 0 (Lib.decDigits n) = n := by
  induction n using Nat.strongRecOn with
  | _ n ih =>
    by_cases h : n < 10
    · rw [Lib.decDigits_one h]
      unfold valF
      simp only [List.foldl_cons, List.foldl_nil, dig_of n h]
      omega
    · rw [decD_step h, valF_app, ih (n / 10) (by omega)]
      unfold valF
      simp only [List.foldl_cons, List.foldl_nil, dig_of (n % 10) (by omega)]
      omega
theorem dec_dig (n : Nat) : ∀ c ∈ Lib.decDigits n, isDig c := by
  induction n using Nat.strongRecOn with
  | _ n ih =>
    by_cases h : n < 10
    · rw [Lib.decDigits_one h]
      intro c hc
      rw [List.mem_singleton] at hc
      subst hc
      unfold isDig
      rw [dig_of n h]
      omega
    · rw [decD_step h]
      intro c hc
      rw [List.mem_append, List.mem_singleton] at hc
      rcases hc with hc | rfl
      · exact ih (n / 10) (by omega) c hc
      · unfold isDig
        rw [dig_of (n % 10) (by omega)]
        omega
theorem dec_len : ∀ (k n : Nat), n < 10 ^ k → 0 < k → (Lib.decDigits n).length ≤ k
  | 0, n, _, h => absurd h (by omega)
  | k + 1, n, h, _ => by
    by_cases h10 : n < 10
    · rw [Lib.decDigits_one h10]
      simp
    · rw [decD_step h10, List.length_append, List.length_singleton]
      have hk : 0 < k := by
        rcases Nat.eq_zero_or_pos k with rfl | h'
        · simp at h
          omega
        · exact h'
      have := dec_len k (n / 10) (by rw [Nat.pow_succ] at h; omega) hk
      omega
theorem dec_ne (n : Nat) : Lib.decDigits n ≠ [] := by
  by_cases h : n < 10
  · rw [Lib.decDigits_one h]
    simp
  · rw [decD_step h]
    simp
theorem digS_nat (n : Nat) : (digS (n : Int)).data.toList = Lib.decDigits n := by
  unfold digS
  rw [Lib.itoa_nonneg]
theorem valS_digS (n : Nat) : valS (digS (n : Int)) = n := by
  unfold valS
  rw [digS_nat]
  exact val_dec n
theorem valF_ge : ∀ (l : List UInt8) (a : Nat), a ≤ valF a l
  | [], a => Nat.le_refl _
  | c :: l, a => by
    have := valF_ge l (10 * a + (c.toNat - 48))
    show a ≤ valF (10 * a + (c.toNat - 48)) l
    omega
theorem parse_val : ∀ (l : List UInt8) (a : Nat), (∀ c ∈ l, isDig c) → valF a l ≤ 999999 → Lib.parseUint10 a l = .ok (valF a l)
  | [], a, _, _ => rfl
  | c :: l, a, hd, hv => by
    have hc := hd c (List.mem_cons_self ..)
    have hv' : valF (10 * a + (c.toNat - 48)) l ≤ 999999 := hv
    have hge := valF_ge l (10 * a + (c.toNat - 48))
    have ih := parse_val l (10 * a + (c.toNat - 48)) (fun x hx => hd x (List.mem_cons_of_mem _ hx)) hv'
    show Lib.parseUint10 a (c :: l) = .ok (valF (10 * a + (c.toNat - 48)) l)
    unfold Lib.parseUint10
    unfold isDig at hc
    rw [if_pos hc, if_neg (by omega), if_neg (by omega), show a * 10 + (c.toNat - 48) = 10 * a + (c.toNat - 48) by omega]
    exact ih
theorem atoi_dec (n : Nat) (h : n ≤ 999999) : Lib.atoiAll (Lib.decDigits n) = .ok (n : Int) := by
  have hd := dec_dig n
  have hv := val_dec n
  have hne := dec_ne n
  generalize Lib.decDigits n = l at hd hv hne
  cases l with
  | nil => exact absurd rfl hne
  | cons c r =>
    have hc := hd c (List.mem_cons_self ..)
    unfold isDig at hc
    unfold Lib.atoiAll
    have hm : Lib.parseMag (c :: r) = .ok n := by
      unfold Lib.parseMag
      rw [if_neg (by simp), parse_val (c :: r) 0 hd (by omega), hv]
    have h1 : ¬ (c.toNat = 43 ∨ c.toNat = 45) := by omega
    have h2 : ¬ c.toNat = 45 := by omega
    have h3 : ¬ 9223372036854775808 ≤ n := by omega
    simp only [if_neg h1, hm]
    simp only [h2, h3, not_false_eq_true, and_false, false_and, if_false]
/-- The string is the numeral of a number up to 999999. -/
def numOk (s : ByteArray) : Bool := decide (digS (valS s : Int) = s) && decide (valS s ≤ 999999)
theorem numOk_of {s : ByteArray} {n : Nat} (h : digS (n : Int) = s) (hn : n ≤ 999999) : numOk s = true ∧ valS s = n := by
  have e : valS s = n := by rw [← h, valS_digS]
  unfold numOk
  rw [e, h]
  simp [hn]
theorem numOk_iff {s : ByteArray} : numOk s = true ↔ (digS (valS s : Int) = s ∧ valS s ≤ 999999) := by
  unfold numOk
  rw [Bool.and_eq_true, decide_eq_true_eq, decide_eq_true_eq]
theorem numOk_atoi {s : ByteArray} (h : numOk s = true) : Lib.atoiAll s.data.toList = .ok (valS s : Int) := by
  obtain ⟨h1, h2⟩ := numOk_iff.1 h
  have := atoi_dec (valS s) h2
  rw [← digS_nat, h1] at this
  exact this
theorem numOk_size {s : ByteArray} (h : numOk s = true) : 1 ≤ s.size ∧ s.size ≤ 6 := by
  obtain ⟨h1, h2⟩ := numOk_iff.1 h
  have hl : s.size = (Lib.decDigits (valS s)).length := by
    rw [← digS_nat, h1]
    exact Array.length_toList.symm
  have h3 := dec_len 6 (valS s) (by omega) (by omega)
  have h4 := dec_ne (valS s)
  have h5 : 0 < (Lib.decDigits (valS s)).length := List.length_pos_iff.2 h4
  omega
theorem numOk_dig {s : ByteArray} (h : numOk s = true) : ∀ c ∈ s.data.toList, isDig c := by
  obtain ⟨h1, h2⟩ := numOk_iff.1 h
  rw [← h1, digS_nat]
  exact dec_dig _
theorem val_lt : ∀ (l : List UInt8) (a : Nat), (∀ c ∈ l, isDig c) → valF a l < (a + 1) * 10 ^ l.length
  | [], a, _ => by
    show a < (a + 1) * 1
    omega
  | c :: l, a, hd => by
    have hc := hd c (List.mem_cons_self ..)
    unfold isDig at hc
    have ih := val_lt l (10 * a + (c.toNat - 48)) (fun x hx => hd x (List.mem_cons_of_mem _ hx))
    show valF (10 * a + (c.toNat - 48)) l < (a + 1) * 10 ^ (l.length + 1)
    have h2 : (10 * a + (c.toNat - 48) + 1) * 10 ^ l.length ≤ ((a + 1) * 10) * 10 ^ l.length := Nat.mul_le_mul_right _ (by omega)
    rw [Nat.pow_succ, Nat.mul_comm (10 ^ l.length) 10, ← Nat.mul_assoc]
    omega
def numR (s : ByteArray) : Int × Bool := if numOk s then ((valS s : Int), true) else (0, false)
theorem str_ne {a b : ByteArray} (h : ¬ a = b) : (a.toList == b.toList) = false := by
  rw [beq_eq_false_iff_ne, ByteArray.toList_eq, ByteArray.toList_eq]
  intro e
  apply h
  cases a
  cases b
  congr 1
  exact Array.toList_inj.1 e
theorem valS_take {s : ByteArray} {k : Nat} (h : k < s.data.toList.length) : valF 0 (s.data.toList.take (k + 1)) = 10 * valF 0 (s.data.toList.take k) + ((s.data.toList[k]'h).toNat - 48) := by
  rw [List.take_succ_eq_append_getElem h, valF_app]
  rfl
set_option maxRecDepth 20000 in
set_option maxHeartbeats 1000000 in
theorem snumber_any (s : ByteArray) (w : World) (hs : s.size ≤ 1048576) :
    Calls Tryd.prog 12 #[.string s] w fun e w' => e = .returned (.tuple #[.int .i64 (numR s).1, .bool (numR s).2]) ∧ Below w.heap.size w w' := by
  have hll : s.data.toList.length = s.size := Array.length_toList
  by_cases hsz : 1 ≤ s.size ∧ s.size ≤ 6
  · have HOD := hide (fun h => numOk_dig (s := s) h)
    obtain ⟨n, hn⟩ : ∃ n, s.size = n := ⟨_, rfl⟩
    have hz1 : ¬ ((n : Int) < 1) := by omega
    have hz2 : ¬ ((6 : Int) < (n : Int)) := by omega
    have hn6 : n ≤ 6 := by omega
    go_enter Tryd.func12, Tryd.ntmps12
    go_wp2_with fail
    go_loopw [4, 5] (fun a i wr => ∃ k : Nat, k ≤ n ∧ i = .int .i64 k ∧ a = .int .i64 (valF 0 (s.data.toList.take k) : Nat) ∧ Hid (∀ c ∈ s.data.toList.take k, isDig c) ∧ w = wr) (fun _ i _ => n - (intOf i).toNat)
    case atStart => exact ⟨0, Nat.zero_le _, rfl, rfl, hide (by simp), rfl⟩
    case round =>
      obtain ⟨k, hk, rfl, rfl, HD, rfl⟩ := hrel
      have hvl := val_lt (s.data.toList.take k) 0 HD.out
      have hvb : valF 0 (s.data.toList.take k) < 1000000 := by
        have h1 : (s.data.toList.take k).length ≤ 6 := by rw [List.length_take]; omega
        have h2 : 10 ^ (s.data.toList.take k).length ≤ 10 ^ 6 := Nat.pow_le_pow_right (by omega) h1
        omega
      by_cases hlt : k < n
      · have i0 : (0 : Int) ≤ (k : Int) := by omega
        have i1 : (k : Int) < (n : Int) := by omega
        have hkl : k < s.data.toList.length := by omega
        have HV := hide (valS_take hkl)
        have HT := hide (List.take_succ_eq_append_getElem hkl)
        obtain ⟨c, hc⟩ : ∃ c, s.data.toList[k]'hkl = c := ⟨_, rfl⟩
        have hcm : c ∈ s.data.toList := by rw [← hc]; exact List.getElem_mem _
        rw [hc] at HV HT
        have hcc : (s[k]'(by omega)).toNat = c.toNat := by rw [← hc]; rfl
        obtain ⟨cn, hcn⟩ : ∃ cn, c.toNat = cn := ⟨_, rfl⟩
        rw [hcn] at hcc
        obtain ⟨V, hV⟩ : ∃ V, valF 0 (s.data.toList.take k) = V := ⟨_, rfl⟩
        rw [hV] at hvb ⊢
        have hc255 : cn < 256 := by rw [← hcn]; exact c.toNat_lt
        clear hvl
        by_cases hd : 48 ≤ cn ∧ cn ≤ 57
        · have j1 : ¬ ((cn : Int) < 48) := by omega
          have j2 : ¬ ((57 : Int) < (cn : Int)) := by omega
          have HD2 : Hid (∀ c ∈ s.data.toList.take (k + 1), isDig c) := hide (by
            rw [HT.out]
            intro x hx
            rw [List.mem_append, List.mem_singleton] at hx
            rcases hx with hx | rfl
            · exact HD.out x hx
            · unfold isDig
              omega)
          have HV2 := hide (show valF 0 (s.data.toList.take (k + 1)) = 10 * V + (cn - 48) by rw [HV.out, hV, hcn])
          clear hcm hV hcn hc
          go_wp2_with fail
          go_roundw
          case rel => exact ⟨k + 1, by omega, by go_num, congrArg (Value.int .i64) (by rw [HV2.out]; omega), HD2, by trivial⟩
          case measure => simp [intOf]; omega
        · have HF := hide (show numR s = (0, false) by
            unfold numR
            rw [if_neg]
            intro hok
            have := HOD.out hok c hcm
            unfold isDig at this
            omega)
          clear hcm hV hcn hc
          by_cases hd1 : cn < 48
          · have j1 : (cn : Int) < 48 := by omega
            go_wp2_with fail
            go_ret2
            exact ⟨by rw [HF.out]; rfl, Below.refl _ _⟩
          · have j1 : ¬ ((cn : Int) < 48) := by omega
            have j2 : (57 : Int) < (cn : Int) := by omega
            go_wp2_with fail
            go_ret2
            exact ⟨by rw [HF.out]; rfl, Below.refl _ _⟩
      · obtain rfl : k = n := by omega
        have HT := hide (show s.data.toList.take k = s.data.toList from List.take_of_length_le (by omega))
        rw [HT.out] at hvb ⊢
        change valS s < 1000000 at hvb
        show Code.wp _ _ _ _ _
        have HOK := hide (numOk_iff (s := s))
        have HR := hide (show numR s = if numOk s then ((valS s : Int), true) else (0, false) from rfl)
        change Code.wp _ _ _ _ _
        obtain ⟨V, hV⟩ : ∃ V, valS s = V := ⟨_, rfl⟩
        have hV2 : valF 0 s.data.toList = V := hV
        rw [hV2]
        rw [hV] at hvb HOK HR
        clear hvl hV hV2 hlt
        go_wp2_with fail
        refine (sdigits_any (V : Int) _ (by omega) (by omega)).mono ?_
        rintro e w2 ⟨rfl, hb2⟩
        by_cases hds : digS (V : Int) = s
        · have HF := hide (show numR s = ((V : Int), true) by rw [HR.out, if_pos (HOK.out.2 ⟨hds, by omega⟩)])
          rw [hds]
          clear hds
          go_wp2_with fail
          go_ret2
          exact ⟨by rw [HF.out]; rfl, hb2⟩
        · have HF := hide (show numR s = ((0 : Int), false) by rw [HR.out, if_neg (fun h => hds (HOK.out.1 h).1)])
          have hne := str_ne hds
          clear hds
          generalize digS (V : Int) = T at *
          go_wp2_with fail
          go_ret2
          exact ⟨by rw [HF.out]; rfl, hb2⟩
  · have HF := hide (show numR s = (0, false) by
      unfold numR
      rw [if_neg]
      intro hok
      exact hsz (numOk_size hok))
    by_cases h1 : s.size < 1
    · have hz1 : (s.size : Int) < 1 := by omega
      go_enter Tryd.func12, Tryd.ntmps12
      go_wp2_with fail
      go_ret2
      exact ⟨by rw [HF.out]; rfl, Below.refl _ _⟩
    · have hz1 : ¬ ((s.size : Int) < 1) := by omega
      have hz2 : (6 : Int) < (s.size : Int) := by omega
      go_enter Tryd.func12, Tryd.ntmps12
      go_wp2_with fail
      go_ret2
      exact ⟨by rw [HF.out]; rfl, Below.refl _ _⟩
set_option maxRecDepth 20000 in
set_option maxHeartbeats 1000000 in
theorem number_any (s : ByteArray) (w : World) (hs : s.size ≤ 1048576) (htab : Lib.TabIs Tryd.prog w "internal/strconv.uint64pow10" .u64 Lib.pow10Tab) (hrng : ∃ tp p, w.var? Tryd.prog "strconv.ErrRange" = some #[.iface tp p]) (hsyn : ∃ tp p, w.var? Tryd.prog "strconv.ErrSyntax" = some #[.iface tp p]) :
    Calls Tryd.prog 13 #[.string s] w fun e w' => e = .returned (.tuple #[.int .i64 (numR s).1, .bool (numR s).2]) ∧ Below w.heap.size w w' := by
  have HOK := hide (numOk_iff (s := s))
  have HOA := hide (fun h => numOk_atoi (s := s) h)
  have HO2 := hide (fun (n : Nat) h1 h2 => numOk_of (s := s) (n := n) h1 h2)
  cases ha : Lib.atoiAll s.data.toList with
  | ok v =>
    have HAT := hide (Tryd.strconv_Atoi_ok s (by omega) v ha w)
    have HT := hide htab
    have HBD := hide (Lib.atoiAll_bounds ha)
    have HR : Hid (numR s = if inB v 0 999999 = true ∧ digS v = s then (v, true) else (0, false)) := hide (by
      unfold numR
      by_cases h : inB v 0 999999 = true ∧ digS v = s
      · rw [if_pos h]
        obtain ⟨n, rfl⟩ := Int.eq_ofNat_of_zero_le ((inB_iff _ _ _).1 h.1).1
        have h3 := ((inB_iff _ _ _).1 h.1).2
        obtain ⟨h4, h5⟩ := HO2.out n h.2 (by omega)
        rw [if_pos h4, h5]
      · rw [if_neg h, if_neg]
        intro hok
        have h1 := HOA.out hok
        rw [ha] at h1
        injection h1 with h1
        subst h1
        obtain ⟨h2, h3⟩ := HOK.out.1 hok
        exact h ⟨(inB_iff _ _ _).2 (by omega), h2⟩)
    clear htab hrng hsyn ha
    go_enter Tryd.func13, Tryd.ntmps13
    go_wp2_with fail
    refine HAT.out.mono ?_
    rintro e w1 ⟨rfl, hw1⟩
    have hb1 : Below w.heap.size w w1 := by
      rcases hw1 with rfl | ⟨t, rfl⟩
      · exact Below.refl _ _
      · exact below_bytesWorld _ _ _ _ (Nat.le_refl _)
    have HT1 := hide (tab_stays gPow HT.out hb1 (Nat.le_refl _))
    have HB1 := hide hb1
    have z1 := hb1.size
    clear hb1 hw1
    obtain ⟨tb, htb⟩ : ∃ tb, inB v 0 999999 = tb := ⟨_, rfl⟩
    cases tb
    · have HF := hide (show numR s = (0, false) by rw [HR.out, if_neg (fun h => by rw [htb] at h; cases h.1)])
      go_wp2_with (go_at_call 37; refine (in_any _ _ _ _).mono ?_; rw [htb]; rintro e w' ⟨rfl, rfl⟩)
      go_ret2
      exact ⟨by rw [HF.out]; rfl, HB1.out⟩
    · go_wp2_with (go_at_call 37; refine (in_any _ _ _ _).mono ?_; rw [htb]; rintro e w' ⟨rfl, rfl⟩)
      refine (digits_any v _ HBD.out.1 HBD.out.2 HT1.out).mono ?_
      rintro e w2 ⟨rfl, hb2⟩
      have HB2 := hide (HB1.out.trans (hb2.mono z1))
      by_cases hds : digS v = s
      · have HF := hide (show numR s = (v, true) by rw [HR.out, if_pos ⟨htb, hds⟩])
        rw [hds]
        clear hds htb
        go_wp2_with fail
        go_ret2
        exact ⟨by rw [HF.out]; rfl, HB2.out⟩
      · have HF := hide (show numR s = (0, false) by rw [HR.out, if_neg (fun h => hds h.2)])
        have hne := str_ne hds
        clear hds htb
        generalize digS v = T at *
        go_wp2_with fail
        go_ret2
        exact ⟨by rw [HF.out]; rfl, HB2.out⟩
  | «syntax» =>
    obtain ⟨tp, p, hv⟩ := hsyn
    have HAT := hide (Tryd.strconv_Atoi_syntax_var s (by omega) ha tp p w hv)
    have HF : Hid (numR s = (0, false)) := hide (by
      unfold numR
      rw [if_neg]
      intro hok
      have h1 := HOA.out hok
      rw [ha] at h1
      cases h1)
    clear htab hrng ha hv
    go_enter Tryd.func13, Tryd.ntmps13
    go_wp2_with fail
    refine HAT.out.mono ?_
    rintro e w1 ⟨N, rfl, _, _, hb1⟩
    go_wp2_with fail
    go_ret2
    exact ⟨by rw [HF.out]; rfl, hb1⟩
  | range =>
    obtain ⟨tp, p, hv⟩ := hrng
    have HAT := hide (Tryd.strconv_Atoi_range_var s (by omega) ha tp p w hv)
    have HF : Hid (numR s = (0, false)) := hide (by
      unfold numR
      rw [if_neg]
      intro hok
      have h1 := HOA.out hok
      rw [ha] at h1
      cases h1)
    clear htab hsyn ha hv
    go_enter Tryd.func13, Tryd.ntmps13
    go_wp2_with fail
    refine HAT.out.mono ?_
    rintro e w1 ⟨N, rfl, _, _, hb1⟩
    go_wp2_with fail
    go_ret2
    exact ⟨by rw [HF.out]; rfl, hb1⟩
end Go.Proofs.YtcjcmdikopipjaaDoor
