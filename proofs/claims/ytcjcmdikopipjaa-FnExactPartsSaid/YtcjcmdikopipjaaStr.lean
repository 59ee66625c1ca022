/- Slices of strings: encoding, append, the laws' equality and marks; Parts of both. -/
import Derived.Test.YtcjcmdikopipjaaMrg
import Derived.Test.YtcjcmdikopipjaaMk
import Derived.Laws.IdiomStrings
import Derived.Test.YtcjcmdikopipjaaCur
namespace Go.Proofs.Ytcjcmdikopipjaa
open Go.ChangeShapes Go.WideShapes Go.ChangeAt Go.RowKit Go.Deep
set_option linter.unusedVariables false
set_option linter.unusedSimpArgs false

def encStr (s : ByteArray) : List Value := [.string s]
theorem encStr_len (s : ByteArray) : (encStr s).length = 1 := rfl
theorem encStr_one (s : ByteArray) : ∀ u ∈ encStr s, u.oneCell' = true := by
  intro u hu
  unfold encStr at hu
  rw [List.mem_singleton] at hu
  subst hu
  rfl
theorem SlK.str {w : World} {lo hi n c : Nat} {A : Option Addr} {xs : List ByteArray} (h : SlK 1 encStr w lo hi A n c xs) {i : Nat} (hi' : i < n) :
    ∃ b off x, xs[i]? = some x ∧ A = some ⟨b, off, none⟩ ∧ lo ≤ b ∧ b < hi ∧ w.cell? ⟨b, off + i, none⟩ = some (.string x) ∧ w.frozen? ⟨b, off + i, none⟩ = false := by
  obtain ⟨b, off, hx, hA, hl, hb, hc⟩ := h.at hi'
  have := hc 0 _ rfl
  simp only [Nat.mul_one, Nat.add_zero] at this
  exact ⟨b, off, xs[i], List.getElem?_eq_getElem hx, hA, hl, hb, this.1, this.2⟩
theorem strs_flat : ∀ zs : List ByteArray, zs.flatMap encStr = zs.map Value.string
  | [] => rfl
  | z :: zs => by rw [List.flatMap_cons, strs_flat zs]; rfl
def zS : Value := .string ByteArray.empty
theorem strInfo : (Try.prog.info? 9).map (fun i => (i.zero, i.size, i.bytes)) = some (some zS, 1, 16) := by kernel_rfl
/-- One string more, out of a block of its own. -/
theorem app1s {w : World} {base : Nat} {v : Value} {xs : List ByteArray} (ho : Own 1 encStr 9 w base v xs) (hb : base ≤ w.heap.size) (hn : xs.length ≤ 4194304) (x : ByteArray) :
    AppOk Try.prog 1 encStr (w.alloc (.cells #[.string x] 9)) base 22 9 v xs (some ⟨w.heap.size, 0, none⟩) 1 1 [x] where
  hk := encStr_len
  h1 := encStr_one
  ht := Try.underlying22
  info := ⟨zS, 16, strInfo, rfl, by omega⟩
  pos := by omega
  own := ho.alloc _
  src := ⟨_, _, slk_new encStr_len w [x] 1 _ _ rfl (by simp [maxLen]) rfl⟩
  h63 := by unfold maxLen; omega
  hb := by simp; omega
theorem ownS_lit0 {α : Type} {enc : α → List Value} (w : World) (e : TypeId) (base : Nat) (hb : base ≤ w.heap.size) {g : Nat} (hg : g = w.heap.size) : Own 1 enc e (w.alloc (.cells #[] e)) base (.slice (some ⟨g, 0, none⟩) 0 0) ([] : List α) := by
  subst hg
  have := World.ownsRow_lit (base := base) (size := 1) (e := e) w #[] 0 hb (by simp [maxLen]) rfl
  show World.ownsRow _ base e 1 _ 0 []
  exact this
/-- The byte of a string at a place. -/
def byteN (s : ByteArray) (k : Nat) : Int := ((s.data.toList.getD k 0).toNat : Int)
theorem byte_at {s : ByteArray} {k : Nat} (h : k < s.size) : ((s[k]'h).toNat : Int) = byteN s k := by
  unfold byteN
  have h' : k < s.data.toList.length := by simpa using h
  rw [List.getD_eq_getElem?_getD, List.getElem?_eq_getElem h']
  rfl
/-- What Parts has done behind k bytes: the parts, and where the next begins. -/
def ptS (s : ByteArray) (b : Int) : Nat → List ByteArray × Nat
  | 0 => ([], 0)
  | k + 1 => if byteN s k = b then ((ptS s b k).1 ++ [s.extract (ptS s b k).2 k], k + 1) else ptS s b k
def partsL (s : ByteArray) (b : Int) : List ByteArray := (ptS s b s.size).1 ++ [s.extract (ptS s b s.size).2 s.size]
theorem ptS_le (s : ByteArray) (b : Int) : ∀ k, (ptS s b k).2 ≤ k ∧ (ptS s b k).1.length ≤ k
  | 0 => ⟨Nat.le_refl _, Nat.le_refl _⟩
  | k + 1 => by
    have ⟨h1, h2⟩ := ptS_le s b k
    unfold ptS
    split
    · simp; omega
    · omega
theorem partsL_len (s : ByteArray) (b : Int) : (partsL s b).length ≤ s.size + 1 := by
  have := (ptS_le s b s.size).2
  unfold partsL
  rw [List.length_append, List.length_singleton]
  omega
theorem ptS_yes {s : ByteArray} {b : Int} {k : Nat} (h : byteN s k = b) : ptS s b (k + 1) = ((ptS s b k).1 ++ [s.extract (ptS s b k).2 k], k + 1) := by
  conv => lhs; unfold ptS
  rw [if_pos h]
theorem ptS_no {s : ByteArray} {b : Int} {k : Nat} (h : ¬ byteN s k = b) : ptS s b (k + 1) = ptS s b k := by
  conv => lhs; unfold ptS
  rw [if_neg h]
set_option maxRecDepth 20000 in
set_option maxHeartbeats 1000000 in
theorem parts_any (s : ByteArray) (b : Int) (w : World) (hs : s.size ≤ 1048576) :
    Calls Try.prog 7 #[.string s, .int .u8 b] w fun e w' => ∃ v, e = .returned v ∧ Own 1 encStr 9 w' w.heap.size v (partsL s b) ∧ Below w.heap.size w w' := by
  obtain ⟨n, hn⟩ : ∃ n, s.size = n := ⟨_, rfl⟩
  have HP := hide (show partsL s b = (ptS s b n).1 ++ [s.extract (ptS s b n).2 n] by rw [← hn]; rfl)
  rw [hn] at hs
  go_enter Try.func7, Try.ntmps7
  go_wp2_with fail
  go_loopw [5, 6, 7] (fun o f i wr => ∃ k : Nat, k ≤ n ∧ i = .int .i64 k ∧ f = .int .i64 (ptS s b k).2 ∧ Own 1 encStr 9 wr w.heap.size o (ptS s b k).1 ∧ Below w.heap.size w wr) (fun _ _ i _ => n - (intOf i).toNat)
  case atStart => exact ⟨0, Nat.zero_le _, rfl, rfl, ownS_lit0 w 9 w.heap.size (Nat.le_refl _) rfl, (by repeat (first | with_reducible exact Below.refl _ _ | with_reducible assumption | with_reducible refine Below.setCell ?_ (by (try simp) <;> omega) _ | with_reducible refine Below.alloc ?_ (by (try simp) <;> omega) _ | with_reducible refine Below.drew ?_ | with_reducible refine below_drewN ?_ _))⟩
  case round =>
    obtain ⟨k, hk, rfl, rfl, ho, hbel⟩ := hrel
    have HO := hide ho
    have HB := hide hbel
    have y1 := hbel.size
    have hle := ptS_le s b k
    by_cases hlt : k < n
    · have i0 : (0 : Int) ≤ (k : Int) := by omega
      have i1 : (k : Int) < (n : Int) := by omega
      have hcc := byte_at (s := s) (k := k) (by omega)
      obtain ⟨c, hc⟩ : ∃ c, byteN s k = c := ⟨_, rfl⟩
      rw [hc] at hcc
      by_cases hb : c = b
      · have HY := hide (ptS_yes (hc.trans hb))
        obtain ⟨⟨ps, f⟩, hpf⟩ : ∃ q, ptS s b k = q := ⟨_, rfl⟩
        rw [hpf] at HO HY hle ⊢
        subst hb
        obtain ⟨hle1, hle2⟩ := hle
        dsimp only at hle1 hle2 HO HY ⊢
        have j0 : (0 : Int) ≤ (f : Int) := by omega
        have j1 : (f : Int) ≤ (k : Int) := by omega
        have j2 : (k : Int) ≤ (n : Int) := by omega
        clear ho hbel hpf hc
        go_wp2_with (at_builtin; refine wpList_app rfl _ _ rfl rfl rfl (app1s HO.out (by omega) (by omega) (s.extract f k)) ?_; intro vf wf hof hgf hatf; have HBf := hide (below_app HB.out HO.out (by omega) _ hgf); have HOf := hide hof; have zf := hgf.size; simp only [World.size_alloc] at zf; clear hof hgf hatf)
        go_roundw
        case rel => exact ⟨k + 1, by omega, by go_num, by rw [HY.out]; go_num, by rw [HY.out]; exact HOf.out, HBf.out⟩
        case measure => simp [intOf]; omega
      · have HN := hide (ptS_no (fun h => hb (hc.symm.trans h)))
        have hbb : (c == b) = false := by simpa using hb
        obtain ⟨⟨ps, f⟩, hpf⟩ : ∃ q, ptS s b k = q := ⟨_, rfl⟩
        rw [hpf] at HO HN hle ⊢
        dsimp only at HO ⊢
        clear ho hbel hpf hc hb
        go_wp2_with fail
        go_roundw
        case rel => exact ⟨k + 1, by omega, by go_num, by rw [HN.out], by rw [HN.out]; exact HO.out, HB.out⟩
        case measure => simp [intOf]; omega
    · obtain rfl : k = n := by omega
      obtain ⟨⟨ps, f⟩, hpf⟩ : ∃ q, ptS s b k = q := ⟨_, rfl⟩
      rw [hpf] at HO HP hle ⊢
      obtain ⟨hle1, hle2⟩ := hle
      dsimp only at hle1 hle2 HO HP ⊢
      have j0 : (0 : Int) ≤ (f : Int) := by omega
      have j1 : (f : Int) ≤ (k : Int) := by omega
      clear ho hbel hpf hlt
      go_wp2_with (at_builtin; refine wpList_app rfl _ _ rfl rfl rfl (app1s HO.out (by omega) (by omega) (s.extract f k)) ?_; intro vf wf hof hgf hatf; have HBf := hide (below_app HB.out HO.out (by omega) _ hgf); have HOf := hide hof; clear hof hgf hatf)
      go_ret
      exact ⟨_, rfl, by rw [HP.out]; exact HOf.out, HBf.out⟩
def ptT (s : ByteArray) (b : Int) (k : Nat) : List ByteArray × Nat := if k ≤ s.size then ptS s b k else (partsL s b, k)
set_option maxRecDepth 20000 in
set_option maxHeartbeats 1000000 in
theorem sparts_any (s : ByteArray) (b : Int) (w : World) (hs : s.size ≤ 1048576) :
    Calls Try.prog 6 #[.string s, .int .u8 b] w fun e w' => ∃ v, e = .returned v ∧ Own 1 encStr 9 w' w.heap.size v (partsL s b) ∧ Below w.heap.size w w' := by
  obtain ⟨n, hn⟩ : ∃ n, s.size = n := ⟨_, rfl⟩
  have HP := hide (show partsL s b = (ptS s b n).1 ++ [s.extract (ptS s b n).2 n] by rw [← hn]; rfl)
  have HT := hide (fun (k : Nat) (h : k ≤ n) => (show ptT s b k = ptS s b k from if_pos (by omega)))
  have HT2 := hide (show ptT s b (n + 1) = (partsL s b, n + 1) from if_neg (by omega))
  rw [hn] at hs
  go_enter Try.func6, Try.ntmps6
  go_wp2_with fail
  go_loopw [5, 6, 7] (fun o f i wr => ∃ k : Nat, k ≤ n + 1 ∧ i = .int .i64 k ∧ f = .int .i64 (ptT s b k).2 ∧ Own 1 encStr 9 wr w.heap.size o (ptT s b k).1 ∧ Below w.heap.size w wr) (fun _ _ i _ => n + 1 - (intOf i).toNat)
  case atStart => exact ⟨0, Nat.zero_le _, rfl, by rw [HT.out 0 (Nat.zero_le _)]; rfl, by rw [HT.out 0 (Nat.zero_le _)]; exact ownS_lit0 w 9 w.heap.size (Nat.le_refl _) rfl, (by repeat (first | with_reducible exact Below.refl _ _ | with_reducible assumption | with_reducible refine Below.setCell ?_ (by (try simp) <;> omega) _ | with_reducible refine Below.alloc ?_ (by (try simp) <;> omega) _ | with_reducible refine Below.drew ?_ | with_reducible refine below_drewN ?_ _))⟩
  case round =>
    obtain ⟨k, hk, rfl, rfl, ho, hbel⟩ := hrel
    have HB := hide hbel
    have y1 := hbel.size
    have hle := ptS_le s b k
    by_cases hlt : k < n
    · rw [HT.out k (by omega)] at ho ⊢
      have HTK := hide (HT.out (k + 1) (by omega))
      have HO := hide ho
      have i0 : (0 : Int) ≤ (k : Int) := by omega
      have i1 : (k : Int) < (n : Int) := by omega
      have i2 : (k : Int) ≤ (n : Int) := by omega
      have i3 : ((k : Int) == (n : Int)) = false := by rw [beq_eq_false_iff_ne]; omega
      have hcc := byte_at (s := s) (k := k) (by omega)
      obtain ⟨c, hc⟩ : ∃ c, byteN s k = c := ⟨_, rfl⟩
      rw [hc] at hcc
      by_cases hb : c = b
      · have HY := hide (ptS_yes (hc.trans hb))
        obtain ⟨⟨ps, f⟩, hpf⟩ : ∃ q, ptS s b k = q := ⟨_, rfl⟩
        rw [hpf] at HO HY hle ⊢
        subst hb
        obtain ⟨hle1, hle2⟩ := hle
        dsimp only at hle1 hle2 HO HY ⊢
        have j0 : (0 : Int) ≤ (f : Int) := by omega
        have j1 : (f : Int) ≤ (k : Int) := by omega
        clear ho hbel hpf hc
        go_wp2_with (at_builtin; refine wpList_app rfl _ _ rfl rfl rfl (app1s HO.out (by omega) (by omega) (s.extract f k)) ?_; intro vf wf hof hgf hatf; have HBf := hide (below_app HB.out HO.out (by omega) _ hgf); have HOf := hide hof; have zf := hgf.size; simp only [World.size_alloc] at zf; clear hof hgf hatf)
        go_roundw
        case rel => exact ⟨k + 1, by omega, by go_num, by rw [HTK.out, HY.out]; go_num, by rw [HTK.out, HY.out]; exact HOf.out, HBf.out⟩
        case measure => simp [intOf]; omega
      · have HN := hide (ptS_no (fun h => hb (hc.symm.trans h)))
        have hbb : (c == b) = false := by simpa using hb
        obtain ⟨⟨ps, f⟩, hpf⟩ : ∃ q, ptS s b k = q := ⟨_, rfl⟩
        rw [hpf] at HO HN hle ⊢
        dsimp only at HO ⊢
        clear ho hbel hpf hc hb
        go_wp2_with fail
        go_roundw
        case rel => exact ⟨k + 1, by omega, by go_num, by rw [HTK.out, HN.out], by rw [HTK.out, HN.out]; exact HO.out, HB.out⟩
        case measure => simp [intOf]; omega
    · by_cases hkn : k = n
      · subst hkn
        rw [HT.out k (by omega)] at ho ⊢
        have HO := hide ho
        obtain ⟨⟨ps, f⟩, hpf⟩ : ∃ q, ptS s b k = q := ⟨_, rfl⟩
        rw [hpf] at HO HP hle ⊢
        obtain ⟨hle1, hle2⟩ := hle
        dsimp only at hle1 hle2 HO HP ⊢
        have j0 : (0 : Int) ≤ (f : Int) := by omega
        have j1 : (f : Int) ≤ (k : Int) := by omega
        have j2 : (0 : Int) ≤ (k : Int) := by omega
        clear ho hbel hpf hlt
        go_wp2_with (at_builtin; refine wpList_app rfl _ _ rfl rfl rfl (app1s HO.out (by omega) (by omega) (s.extract f k)) ?_; intro vf wf hof hgf hatf; have HBf := hide (below_app HB.out HO.out (by omega) _ hgf); have HOf := hide hof; clear hof hgf hatf)
        go_roundw
        case rel => exact ⟨k + 1, by omega, by go_num, by rw [HT2.out]; rfl, by rw [HT2.out]; show Own _ _ _ _ _ _ (partsL s b); rw [HP.out]; exact HOf.out, HBf.out⟩
        case measure => first | omega | (simp [intOf]; done) | (simp [intOf]; omega)
      · obtain rfl : k = n + 1 := by omega
        rw [HT2.out] at ho ⊢
        have HO := hide ho
        have hge : ¬ ((n : Int) + 1 ≤ (n : Int)) := by omega
        clear ho hbel hlt hkn
        go_wp2_with fail
        go_ret
        exact ⟨_, rfl, HO.out, HB.out⟩
theorem ne_atS {α : Type} {xs ys : List α} {k : Nat} {x y : α} (hx : xs[k]? = some x) (hy : ys[k]? = some y) (h : ¬ x = y) : ¬ xs = ys := by
  rintro rfl
  rw [hx] at hy
  exact h (Option.some.inj hy)
set_option maxHeartbeats 800000 in
theorem eqStringS_any (lo hi lo' hi' : Nat) (A A' : Option Addr) (n c c' : Nat) (xs : List ByteArray) (w : World) (hs : SlK 1 encStr w lo hi A n c xs) (hB : hi ≤ w.heap.size) (hs' : SlK 1 encStr w lo' hi' A' n c' xs) (hB' : hi' ≤ w.heap.size) :
    Calls Try.prog 8 #[.slice A n c, .slice A' n c'] w fun e w' => e = .returned (.bool true) ∧ Below w.heap.size w w' := by
  have hm := hs.max
  have hc := hs.cap
  have hm' := hs'.max
  have hc' := hs'.cap
  go_enter Try.func8, Try.ntmps8
  go_wp2
  go_loopw [5] (fun i wr => ∃ k : Nat, k ≤ n ∧ i = .int .i64 k ∧ Below w.heap.size w wr) (fun i _ => n - (intOf i).toNat)
  case atStart => exact ⟨0, Nat.zero_le _, rfl, Below.refl _ _⟩
  case round =>
    obtain ⟨k, hk, rfl, hbel⟩ := hrel
    by_cases hlt : k < n
    · obtain ⟨b0, off, x, hx, rfl, _, hb0, c0, _⟩ := (hs.below hbel hB).str hlt
      obtain ⟨b0', off', x', hx', rfl, _, hb0', d0, _⟩ := (hs'.below hbel hB').str hlt
      obtain rfl : x' = x := by rw [hx] at hx'; exact (Option.some.inj hx').symm
      have i0 : (0 : Int) ≤ (k : Int) := by omega
      have i1 : (k : Int) < (n : Int) := by omega
      have z0 : b0 < wr.heap.size := by have := hbel.size; omega
      have z1 : b0' < wr.heap.size := by have := hbel.size; omega
      have HS := hide hs
      have HS' := hide hs'
      have HB := hide hbel
      clear hs hs' hx hx' hbel
      go_wp2_with fail
      go_quiet (fail)
      go_wp2
      go_roundw
      case rel => exact ⟨k + 1, by omega, by go_num, below_drewN HB.out _⟩
      case measure => simp [intOf]; omega
    · have hge : ¬ ((k : Int) < (n : Int)) := by omega
      clear hlt
      go_wp2
      go_ret
      exact ⟨rfl, hbel⟩
/-- The digits of a number, ahead of what is there. -/
def mkF : Nat → Nat → ByteArray → ByteArray
  | 0, _, out => out
  | f + 1, k, out => if k = 0 then out else mkF f (k / 10) (ByteArray.mk #[UInt8.ofNat (48 + k % 10)] ++ out)
def mkT (k : Int) : ByteArray := ByteArray.mk #[109] ++ mkF k.toNat k.toNat ByteArray.empty
theorem mkF_zero (f : Nat) (out : ByteArray) : mkF f 0 out = out := by
  cases f <;> simp [mkF]
set_option maxRecDepth 20000 in
set_option maxHeartbeats 1000000 in
theorem markText_any (k : Nat) (w : World) (hk0 : 0 < k) (hk1 : k ≤ 4194304) :
    Calls Try.prog 27 #[.int .i64 k] w fun e w' => e = .returned (.string (mkT k)) ∧ Below w.heap.size w w' := by
  have hk2 : ¬ ((k : Int) ≤ 0) := by omega
  have HM := hide (show mkT k = ByteArray.mk #[109] ++ mkF k k ByteArray.empty from rfl)
  go_enter Try.func27, Try.ntmps27
  go_wp2_with fail
  go_loopw [0, 3] (fun i o wr => ∃ (j f : Nat) (out : ByteArray), j ≤ f ∧ i = .int .i64 j ∧ o = .string out ∧ out.size + j ≤ k ∧ Hid (mkF f j out = mkF k k ByteArray.empty) ∧ Below w.heap.size w wr) (fun i _ _ => (intOf i).toNat)
  case atStart => exact ⟨k, k, ByteArray.empty, Nat.le_refl _, rfl, rfl, by simp, hide rfl, Below.refl _ _⟩
  case round =>
    obtain ⟨j, f, out, hjf, rfl, rfl, hsz, HF, hbel⟩ := hrel
    have HB := hide hbel
    have y1 := hbel.size
    clear hbel
    by_cases hj : 0 < j
    · obtain ⟨f, rfl⟩ : ∃ f', f = f' + 1 := ⟨f - 1, by omega⟩
      obtain ⟨d, hd⟩ : ∃ d, UInt8.ofNat (48 + j % 10) = d := ⟨_, rfl⟩
      have hdn : (d.toNat : Int) = 48 + (j : Int) % 10 := by
        have h1 : (UInt8.ofNat (48 + j % 10)).toNat = (48 + j % 10) % 256 := UInt8.toNat_ofNat'
        rw [hd] at h1
        omega
      have HF2 := hide (show mkF f (j / 10) (ByteArray.mk #[d] ++ out) = mkF k k ByteArray.empty by rw [← HF.out, ← hd]; show _ = if j = 0 then _ else _; rw [if_neg (by omega)])
      have i1 : (0 : Int) < (j : Int) := by omega
      have hcv : (convert 27 9 (.slice (some ⟨wr.heap.size, 0, none⟩) 1 1)).run Try.prog (wr.alloc (.cells #[.int .u8 (48 + (j : Int) % 10)] 5)) = .ok (.string (ByteArray.mk #[d])) (wr.alloc (.cells #[.int .u8 (48 + (j : Int) % 10)] 5)) :=
        run_convert_bytes_back _ _ _ 5 ⟨wr.heap.size, 0, none⟩ 1 [d] Try.underlying27 Try.underlying5 Try.underlying9 (fun i hi => by
          have hi0 : i = 0 := by simpa using hi
          subst hi0
          have hb := (Blk.new wr 5 #[.int .u8 (48 + (j : Int) % 10)] rfl).cell 0
          simp only [List.getElem_cons_zero, hdn]
          exact hb)
      have hds : (ByteArray.mk #[d]).size = 1 := rfl
      clear hd hdn
      have hso : out.size ≤ 4194304 := by omega
      go_wp2_with fail
      go_roundw
      case rel => exact ⟨j / 10, f, ByteArray.mk #[d] ++ out, by omega, by go_num, rfl, by rw [ByteArray.size_append, hds]; omega, HF2, (by repeat (first | with_reducible exact Below.refl _ _ | with_reducible assumption | with_reducible refine Below.setCell ?_ (by (try simp) <;> omega) _ | with_reducible refine Below.alloc ?_ (by (try simp) <;> omega) _ | with_reducible refine Below.drew ?_ | with_reducible refine below_drewN ?_ _ | with_reducible exact HB.out | with_reducible refine Below.trans ?_ (Below.mono HB.out (by (try simp) <;> omega))))⟩
      case measure => simp [intOf]; omega
    · obtain rfl : j = 0 := by omega
      have HF3 := hide (show out = mkF k k ByteArray.empty by rw [← HF.out, mkF_zero])
      have hso : out.size ≤ 4194304 := by omega
      go_wp2_with fail
      go_ret
      exact ⟨by rw [HM.out, ← HF3.out]; rfl, HB.out⟩
/-- The marks of strings: k0, k0 + 1, .. -/
def marksS (k0 : Nat) : Nat → List ByteArray
  | 0 => []
  | n + 1 => marksS k0 n ++ [mkT ((k0 + n : Nat) : Int)]
theorem marksS_len (k0 : Nat) : ∀ n, (marksS k0 n).length = n
  | 0 => rfl
  | n + 1 => by simp [marksS, marksS_len k0 n]
theorem marksS_at (k0 : Nat) : ∀ n i, i < n → (marksS k0 n)[i]? = some (mkT ((k0 + i : Nat) : Int))
  | 0, i, h => absurd h (by omega)
  | n + 1, i, h => by
    unfold marksS
    by_cases hi : i < n
    · rw [List.getElem?_append_left (by rw [marksS_len]; exact hi)]
      exact marksS_at k0 n i hi
    · obtain rfl : i = n := by omega
      rw [List.getElem?_append_right (by rw [marksS_len]; exact Nat.le_refl _), marksS_len]
      simp
theorem marksS_set (k0 : Nat) (xs : List ByteArray) (j : Nat) (hj : j < xs.length) : setL ((marksS k0 j ++ xs.drop j).map Value.string) j [Value.string (mkT ((k0 + j : Nat) : Int))] = (marksS k0 (j + 1) ++ xs.drop (j + 1)).map Value.string := by
  have hl : (marksS k0 j).length = j := marksS_len k0 j
  rw [setL_eq _ _ _ (by simp [hl]; omega)]
  have e1 : ((marksS k0 j ++ xs.drop j).map Value.string).take j = (marksS k0 j).map Value.string := by
    rw [List.map_append, List.take_left' (by simp [hl])]
  have e2 : ((marksS k0 j ++ xs.drop j).map Value.string).drop (j + [Value.string (mkT ((k0 + j : Nat) : Int))].length) = (xs.drop (j + 1)).map Value.string := by
    rw [List.map_append, List.drop_append, List.drop_of_length_le (by simp [hl])]
    simp [hl]
  rw [e1, e2, marksS]
  simp
theorem own_of_strs {w : World} {base : Nat} {e : TypeId} {v : Value} {n : Nat} {zs : List ByteArray} (hl : zs.length = n) (h : w.ownsRow base e 1 v n (zs.map Value.string)) : Own 1 encStr e w base v zs := by
  subst hl
  show w.ownsRow base e 1 v zs.length (zs.flatMap encStr)
  rw [strs_flat]
  exact h
theorem strs_of_own {w : World} {base : Nat} {e : TypeId} {v : Value} {zs : List ByteArray} (h : Own 1 encStr e w base v zs) : w.ownsRow base e 1 v zs.length (zs.map Value.string) := by
  have h' : w.ownsRow base e 1 v zs.length (zs.flatMap encStr) := h
  rwa [strs_flat] at h'
theorem ownS_form {w : World} {base : Nat} {e : TypeId} {v : Value} {zs : List ByteArray} (h : Own 1 encStr e w base v zs) : (v = .slice none 0 0 ∧ zs = []) ∨ ∃ g cap, v = .slice (some ⟨g, 0, none⟩) zs.length cap ∧ base ≤ g ∧ g < w.heap.size ∧ zs.length ≤ cap ∧ cap ≤ maxLen := by
  obtain ⟨_, h2⟩ := h
  rcases h2 with ⟨h2, h3⟩ | ⟨g, cap, cur, hv, hg, hh, hnc, hcm, _⟩
  · exact .inl ⟨h2, List.eq_nil_of_length_eq_zero h3⟩
  · exact .inr ⟨g, cap, hv, hg, (Array.getElem?_eq_some_iff.1 hh).1, hnc, hcm⟩
set_option maxRecDepth 20000 in
set_option maxHeartbeats 1000000 in
theorem markStringS_own (k0 : Nat) (base : Nat) (v : Value) (xs : List ByteArray) (w : World) (h : Own 1 encStr 9 w base v xs) (hn : xs.length ≤ 1048577) (hk : 0 < k0) (hk2 : k0 ≤ 1048576) :
    Calls Try.prog 9 #[v, .int .i64 k0] w fun e w' => e = .returned (.int .i64 ((k0 : Int) + xs.length)) ∧ Own 1 encStr 9 w' base v (marksS k0 xs.length) ∧ w.grownBy w' v.ownBlock := by
  rcases ownS_form h with ⟨rfl, rfl⟩ | ⟨g, cap, rfl, hg, hlt, hnc, hcm⟩
  · go_enter Try.func9, Try.ntmps9
    go_wp2
    go_loopw [1, 5] (fun k i wr => k = .int .i64 k0 ∧ i = .int .i64 0 ∧ w = wr) (fun _ _ _ => 0)
    case atStart => exact ⟨rfl, rfl, rfl⟩
    case round =>
      obtain ⟨rfl, rfl, rfl⟩ := hrel
      go_wp2
      go_ret
      exact ⟨by simp, h, World.grownBy.refl _ _⟩
  · obtain ⟨n, hnn⟩ : ∃ n, xs.length = n := ⟨_, rfl⟩
    have HN := hide hnn
    have HI := hide (strs_of_own h)
    rw [hnn] at hn hnc HI ⊢
    clear h hnn
    have hcm' : cap ≤ 9223372036854775807 := by unfold maxLen at hcm; omega
    go_enter Try.func9, Try.ntmps9
    go_wp2_with fail
    go_loopw [1, 5] (fun k i wr => ∃ j : Nat, j ≤ n ∧ i = .int .i64 j ∧ k = .int .i64 ((k0 + j : Nat) : Int) ∧ wr.ownsRow base 9 1 (.slice (some ⟨g, 0, none⟩) n cap) n ((marksS k0 j ++ xs.drop j).map Value.string) ∧ w.grownBy wr (some g)) (fun _ i _ => n - (intOf i).toNat)
    case atStart => exact ⟨0, Nat.zero_le _, rfl, by simp, by simpa [marksS] using HI.out, World.grownBy.refl _ _⟩
    case round =>
      obtain ⟨j, hj, rfl, rfl, ho, hgr⟩ := hrel
      have HO := hide ho
      have HG := hide hgr
      have y1 := hgr.size
      clear ho hgr
      obtain ⟨kk, hkk⟩ : ∃ kk, k0 + j = kk := ⟨_, rfl⟩
      have hkk0 : 0 < kk := by omega
      have hkk1 : kk ≤ 4194304 := by omega
      by_cases hlt2 : j < n
      · have i0 : (0 : Int) ≤ (j : Int) := by omega
        have i1 : (j : Int) < (n : Int) := by omega
        have hs1 : -9223372036854775808 ≤ (kk : Int) + 1 := by omega
        have hs2 : (kk : Int) + 1 ≤ 9223372036854775807 := by omega
        rw [hkk]
        go_wp2_with fail
        refine (markText_any kk _ hkk0 hkk1).mono ?_
        rintro e w2 ⟨rfl, hb2⟩
        have hO2 := (own_of_strs (by simp [marksS_len, HN.out]; omega) HO.out).below hb2
        have hO3 := strs_of_own hO2
        rw [show (marksS k0 j ++ xs.drop j).length = n by simp [marksS_len, HN.out]; omega] at hO3
        have hG2 := HG.out.trans (grown_below (some g) hb2)
        have z2 := hb2.size
        have hc := hO3.cellAt j (by simp [marksS_len, HN.out]; omega)
        have hc' : (w2.cell? ⟨g, j, none⟩).isSome = true := by
          rw [hc, List.getElem?_eq_getElem (by simp [marksS_len, HN.out]; omega)]
          rfl
        obtain ⟨u, hu⟩ := Option.isSome_iff_exists.1 hc'
        have hf := hO3.frozenAt j
        obtain ⟨h3, h4⟩ := storedL [Value.string (mkT kk)] j hO3
        rw [← hkk] at h3 h4
        rw [marksS_set k0 xs j (by rw [HN.out]; exact hlt2)] at h3
        rw [hkk] at h4
        have H3 := hide h3
        have H4 := hide (hG2.trans h4)
        clear hc hc' h3 h4 hO2 hO3 hG2 hb2
        rw [hkk] at H3
        generalize mkT kk = T at *
        go_wp2
        go_roundw
        case rel => exact ⟨j + 1, by omega, by go_num, congrArg (Value.int .i64) (by omega), H3.out, H4.out⟩
        case measure => simp [intOf]; omega
      · obtain rfl : j = n := by omega
        clear hlt2
        go_wp2
        go_ret
        refine ⟨by simp, own_of_strs (by rw [marksS_len]) ?_, HG.out⟩
        have := HO.out
        rwa [List.drop_of_length_le (by rw [HN.out]; exact Nat.le_refl _), List.append_nil] at this
set_option maxRecDepth 20000 in
set_option maxHeartbeats 1000000 in
theorem heldStringS_any (k0 : Nat) (lo hi : Nat) (A : Option Addr) (n c : Nat) (w : World) (h : SlK 1 encStr w lo hi A n c (marksS k0 n)) (hB : hi ≤ w.heap.size) (hn : n ≤ 1048577) (hk : 0 < k0) (hk2 : k0 ≤ 1048576) :
    Calls Try.prog 10 #[.slice A n c, .int .i64 k0] w fun e w' => e = .returned (.int .i64 ((k0 : Int) + n)) ∧ Below w.heap.size w w' := by
  have hc := h.cap
  have hm := h.max
  have HS := hide h
  clear h
  go_enter Try.func10, Try.ntmps10
  go_wp2_with fail
  go_loopw [1, 5] (fun k i wr => ∃ j : Nat, j ≤ n ∧ i = .int .i64 j ∧ k = .int .i64 ((k0 + j : Nat) : Int) ∧ Below w.heap.size w wr) (fun _ i _ => n - (intOf i).toNat)
  case atStart => exact ⟨0, Nat.zero_le _, rfl, by simp, Below.refl _ _⟩
  case round =>
    obtain ⟨j, hj, rfl, rfl, hbel⟩ := hrel
    have HB := hide hbel
    have y1 := hbel.size
    clear hbel
    obtain ⟨kk, hkk⟩ : ∃ kk, k0 + j = kk := ⟨_, rfl⟩
    have hkk0 : 0 < kk := by omega
    have hkk1 : kk ≤ 4194304 := by omega
    by_cases hlt : j < n
    · obtain ⟨b, off, x, hx, rfl, _, hb, c0, _⟩ := (HS.out.below HB.out hB).str hlt
      rw [marksS_at k0 n j hlt, hkk] at hx
      obtain rfl : x = mkT kk := (Option.some.inj hx).symm
      have i0 : (0 : Int) ≤ (j : Int) := by omega
      have i1 : (j : Int) < (n : Int) := by omega
      have hs1 : -9223372036854775808 ≤ (kk : Int) + 1 := by omega
      have hs2 : (kk : Int) + 1 ≤ 9223372036854775807 := by omega
      rw [hkk]
      clear hx
      have HMT := hide (fun W => markText_any kk W hkk0 hkk1)
      generalize mkT kk = T at *
      go_wp2_with fail
      refine wp_region_held_drew (S := (fun w' => w'.cell? ⟨b, off + j, none⟩ = some (.string T))) (by kernel_rfl) ?hS0 (fun hHeld => ?_)
      case hS0 => (go_keep)
      refine wpAnyH_take (i := 0) (v := ?_) rfl (by kernel_rfl) (by kernel_rfl) (by kernel_rfl) (fun _ _ _ h => h) (Or.inl ⟨by rfl, ?_⟩) (by assumption) ?_
      rotate_left 1
      · intro w hSw
        try dsimp only at hSw
        go_simp
        try with_reducible rfl
      simp only [Act.put, List.getElem_toArray, List.getElem_cons_succ, List.getElem_cons_zero, List.setIfInBounds_toArray, List.set_cons_zero, List.set_cons_succ]
      refine wpAnyH_take (i := 1) (v := ?_) rfl (by kernel_rfl) (by kernel_rfl) (by kernel_rfl) (fun _ _ _ h => h) (Or.inl ⟨by rfl, ?_⟩) (by assumption) ?_
      rotate_left 1
      · intro w hSw
        try dsimp only at hSw
        go_simp
        try with_reducible rfl
      simp only [Act.put, List.getElem_toArray, List.getElem_cons_succ, List.getElem_cons_zero, List.setIfInBounds_toArray, List.set_cons_zero, List.set_cons_succ]
      refine wpAnyH_take (i := 2) (v := ?_) rfl (by kernel_rfl) (by kernel_rfl) (by kernel_rfl) (fun _ _ _ h => h) (Or.inl ⟨by rfl, ?_⟩) (by assumption) ?_
      rotate_left 1
      · intro w hSw
        try dsimp only at hSw
        go_simp
        try with_reducible rfl
      simp only [Act.put, List.getElem_toArray, List.getElem_cons_succ, List.getElem_cons_zero, List.setIfInBounds_toArray, List.set_cons_zero, List.set_cons_succ]
      refine wpAnyH_take (i := 3) (v := ?_) rfl (by kernel_rfl) (by kernel_rfl) (by kernel_rfl) (fun _ _ _ h => h) (Or.inl ⟨by rfl, ?_⟩) (by assumption) ?_
      rotate_left 1
      · intro w hSw
        try dsimp only at hSw
        go_simp
        try with_reducible rfl
      simp only [Act.put, List.getElem_toArray, List.getElem_cons_succ, List.getElem_cons_zero, List.setIfInBounds_toArray, List.set_cons_zero, List.set_cons_succ]
      refine wpAnyH_take (i := 4) (v := ?_) rfl (by kernel_rfl) (by kernel_rfl) (by kernel_rfl) (fun _ _ _ h => h) (Or.inl ⟨by rfl, ?_⟩) (by assumption) ?_
      rotate_left 1
      · intro w hSw
        try dsimp only at hSw
        go_simp
        try with_reducible rfl
      simp only [Act.put, List.getElem_toArray, List.getElem_cons_succ, List.getElem_cons_zero, List.setIfInBounds_toArray, List.set_cons_zero, List.set_cons_succ]
      refine wpAnyH_ready (rs := [5]) (by kernel_rfl) (by simp) ?_
      refine AllReadyH.cons rfl (fun K hK => ?_) AllReadyH.nil
      go_simp
      refine (HMT.out _).mono ?_
      rintro e w2 ⟨rfl, hb2⟩
      have HB2 := hide (show Below w.heap.size w w2 from (by repeat (first | with_reducible exact Below.refl _ _ | with_reducible assumption | with_reducible refine Below.setCell ?_ (by (try simp) <;> omega) _ | with_reducible refine Below.alloc ?_ (by (try simp) <;> omega) _ | with_reducible refine Below.drew ?_ | with_reducible refine below_drewN ?_ _ | with_reducible exact HB.out | with_reducible exact hb2 | with_reducible refine Below.trans ?_ (Below.mono HB.out (by (try simp) <;> omega)) | with_reducible refine Below.trans ?_ (Below.mono hb2 (by (try simp) <;> omega)))))
      have hcc : w2.cell? ⟨b, off + j, none⟩ = some (.string T) := (bcellD hb2 b (off + j) (by omega)).trans c0
      go_wp2_with fail
      refine hK.out _ _ ?hS1 (fun hHeld => ?_)
      case hS1 => (try dsimp only); (first | (with_reducible assumption) | go_keep)
      clear hK K
      try simp only [Act.put, List.getElem_toArray, List.getElem_cons_succ, List.getElem_cons_zero, List.setIfInBounds_toArray, List.set_cons_zero, List.set_cons_succ]
      refine wpAnyH_ready (rs := [6]) (by kernel_rfl) (by simp) ?_
      refine AllReadyH.cons rfl (fun K hK => ?_) AllReadyH.nil
      go_simp
      refine hK.out _ _ ?hS1 (fun hHeld => ?_)
      case hS1 => (try dsimp only); (first | (with_reducible assumption) | go_keep)
      clear hK K
      try simp only [Act.put, List.getElem_toArray, List.getElem_cons_succ, List.getElem_cons_zero, List.setIfInBounds_toArray, List.set_cons_zero, List.set_cons_succ]
      refine wpAnyH_done (by kernel_rfl) ?_ _
      go_wp2_with fail
      go_roundw
      case rel => exact ⟨j + 1, by omega, by go_num, congrArg (Value.int .i64) (by omega), HB2.out⟩
      case measure => simp [intOf]; omega
    · obtain rfl : j = n := by omega
      clear hlt
      go_wp2
      go_ret
      exact ⟨ret_int (by omega), HB.out⟩
end Go.Proofs.Ytcjcmdikopipjaa
