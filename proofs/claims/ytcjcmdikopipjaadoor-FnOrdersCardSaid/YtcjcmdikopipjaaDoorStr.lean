/- Slices of strings: encoding, append, the laws' equality and marks; Parts of both. -/
import Derived.Test.YtcjcmdikopipjaaDoorMrg
import Derived.Test.YtcjcmdikopipjaaDoorMk
import Derived.Laws.IdiomStrings
import Derived.Test.YtcjcmdikopipjaaDoorCur
namespace Go.Proofs.YtcjcmdikopipjaaDoor
open Go.ChangeShapes Go.WideShapes Go.ChangeAt Go.RowKit Go.Deep
set_option linter.unusedVariables false
set_option linter.unusedSimpArgs false

def encStr (s : ByteArray) : List Value := [.string s]
theorem encStr_len (s : ByteArray) : (encStr s).length = 1 := rfl
theorem encStr_one (s : ByteArray) : ∀ u ∈ encStr s, u.oneCell' = true := by
  intro u hu
  unfold encStr at hu
  rw [List.mem_singleton] at hu
  subst hu
  rfl
theorem SlK.str {w : World} {lo hi n c : Nat} {A : Option Addr} {xs : List ByteArray} (h : SlK 1 encStr w lo hi A n c xs) {i : Nat} (hi' : i < n) :
    ∃ b off x, xs[i]? = some x ∧ A = some ⟨b, off, none⟩ ∧ lo ≤ b ∧ b < hi ∧ w.cell? ⟨b, off + i, none⟩ = some (.string x) ∧ w.frozen? ⟨b, off + i, none⟩ = false := by
  obtain ⟨b, off, hx, hA, hl, hb, hc⟩ := h.at hi'
  have := hc 0 _ rfl
  simp only [Nat.mul_one, Nat.add_zero] at this
  exact ⟨b, off, xs[i], List.getElem?_eq_getElem hx, hA, hl, hb, this.1, this.2⟩
theorem strs_flat : ∀ zs : List ByteArray, zs.flatMap encStr = zs.map Value.string
  | [] => rfl
  | z :: zs => by rw [List.flatMap_cons, strs_flat zs]; rfl
def zS : Value := .string ByteArray.empty
theorem strInfo : (Tryd.prog.info? 9).map (fun i => (i.zero, i.size, i.bytes)) = some (some zS, 1, 16) := by kernel_rfl
/-- One string more, out of a block of its own. -/
theorem app1s {w : World} {base : Nat} {v : Value} {xs : List ByteArray} (ho : Own 1 encStr 9 w base v xs) (hb : base ≤ w.heap.size) (hn : xs.length ≤ 4194304) (x : ByteArray) :
    AppOk Tryd.prog 1 encStr (w.alloc (.cells #[.string x] 9)) base 50 9 v xs (some ⟨w.heap.size, 0, none⟩) 1 1 [x] where
  hk := encStr_len
  h1 := encStr_one
  ht := Tryd.underlying50
  info := ⟨zS, 16, strInfo, rfl, by omega⟩
  pos := by omega
  own := ho.alloc _
  src := ⟨_, _, slk_new encStr_len w [x] 1 _ _ rfl (by simp [maxLen]) rfl⟩
  h63 := by unfold maxLen; omega
  hb := by simp; omega
theorem ownS_lit0 {α : Type} {enc : α → List Value} (w : World) (e : TypeId) (base : Nat) (hb : base ≤ w.heap.size) {g : Nat} (hg : g = w.heap.size) : Own 1 enc e (w.alloc (.cells #[] e)) base (.slice (some ⟨g, 0, none⟩) 0 0) ([] : List α) := by
  subst hg
  have := World.ownsRow_lit (base := base) (size := 1) (e := e) w #[] 0 hb (by simp [maxLen]) rfl
  show World.ownsRow _ base e 1 _ 0 []
  exact this
/-- The byte of a string at a place. -/
def byteN (s : ByteArray) (k : Nat) : Int := ((s.data.toList.getD k 0).toNat : Int)
theorem byte_at {s : ByteArray} {k : Nat} (h : k < s.size) : ((s[k]'h).toNat : Int) = byteN s k := by
  unfold byteN
  have h' : k < s.data.toList.length := by simpa using h
  rw [List.getD_eq_getElem?_getD, List.getElem?_eq_getElem h']
  rfl
/-- What Parts has done behind k bytes: the parts, and where the next begins. -/
def ptS (s : ByteArray) (b : Int) : Nat → List ByteArray × Nat
  | 0 => ([], 0)
  | k + 1 => if byteN s k = b then ((ptS s b k).1 ++ [s.extract (ptS s b k).2 k], k + 1) else ptS s b k
def partsL (s : ByteArray) (b : Int) : List ByteArray := (ptS s b s.size).1 ++ [s.extract (ptS s b s.size).2 s.size]
theorem ptS_le (s : ByteArray) (b : Int) : ∀ k, (ptS s b k).2 ≤ k ∧ (ptS s b k).1.length ≤ k
  | 0 => ⟨Nat.le_refl _, Nat.le_refl _⟩
  | k + 1 => by
    have ⟨h1, h2⟩ := ptS_le s b k
    unfold ptS
    split
    · simp; omega
    · omega
theorem partsL_len (s : ByteArray) (b : Int) : (partsL s b).length ≤ s.size + 1 := by
  have := (ptS_le s b s.size).2
  unfold partsL
  rw [List.length_append, List.length_singleton]
  omega
theorem ptS_yes {s : ByteArray} {b : Int} {k : Nat} (h : byteN s k = b) : ptS s b (k + 1) = ((ptS s b k).1 ++ [s.extract (ptS s b k).2 k], k + 1) := by
  conv => lhs; unfold ptS
  rw [if_pos h]
theorem ptS_no {s : ByteArray} {b : Int} {k : Nat} (h : ¬ byteN s k = b) : ptS s b (k + 1) = ptS s b k := by
  conv => lhs; unfold ptS
  rw [if_neg h]
set_option maxRecDepth 20000 in
set_option maxHeartbeats 1000000 in
theorem parts_any (s : ByteArray) (b : Int) (w : World) (hs : s.size ≤ 1048576) :
    Calls Tryd.prog 22 #[.string s, .int .u8 b] w fun e w' => ∃ v, e = .returned v ∧ Own 1 encStr 9 w' w.heap.size v (partsL s b) ∧ Below w.heap.size w w' := by
  obtain ⟨n, hn⟩ : ∃ n, s.size = n := ⟨_, rfl⟩
  have HP := hide (show partsL s b = (ptS s b n).1 ++ [s.extract (ptS s b n).2 n] by rw [← hn]; rfl)
  rw [hn] at hs
  go_enter Tryd.func22, Tryd.ntmps22
  go_wp2_with fail
  go_loopw [5, 6, 7] (fun o f i wr => ∃ k : Nat, k ≤ n ∧ i = .int .i64 k ∧ f = .int .i64 (ptS s b k).2 ∧ Own 1 encStr 9 wr w.heap.size o (ptS s b k).1 ∧ Below w.heap.size w wr) (fun _ _ i _ => n - (intOf i).toNat)
  case atStart => exact ⟨0, Nat.zero_le _, rfl, rfl, ownS_lit0 w 9 w.heap.size (Nat.le_refl _) rfl, (by repeat (first | with_reducible exact Below.refl _ _ | with_reducible assumption | with_reducible refine Below.setCell ?_ (by (try simp) <;> omega) _ | with_reducible refine Below.alloc ?_ (by (try simp) <;> omega) _ | with_reducible refine Below.drew ?_ | with_reducible refine below_drewN ?_ _))⟩
  case round =>
    obtain ⟨k, hk, rfl, rfl, ho, hbel⟩ := hrel
    have HO := hide ho
    have HB := hide hbel
    have y1 := hbel.size
    have hle := ptS_le s b k
    by_cases hlt : k < n
    · have i0 : (0 : Int) ≤ (k : Int) := by omega
      have i1 : (k : Int) < (n : Int) := by omega
      have hcc := byte_at (s := s) (k := k) (by omega)
      obtain ⟨c, hc⟩ : ∃ c, byteN s k = c := ⟨_, rfl⟩
      rw [hc] at hcc
      by_cases hb : c = b
      · have HY := hide (ptS_yes (hc.trans hb))
        obtain ⟨⟨ps, f⟩, hpf⟩ : ∃ q, ptS s b k = q := ⟨_, rfl⟩
        rw [hpf] at HO HY hle ⊢
        subst hb
        obtain ⟨hle1, hle2⟩ := hle
        dsimp only at hle1 hle2 HO HY ⊢
        have j0 : (0 : Int) ≤ (f : Int) := by omega
        have j1 : (f : Int) ≤ (k : Int) := by omega
        have j2 : (k : Int) ≤ (n : Int) := by omega
        clear ho hbel hpf hc
        go_wp2_with (at_builtin; refine wpList_app rfl _ _ rfl rfl rfl (app1s HO.out (by omega) (by omega) (s.extract f k)) ?_; intro vf wf hof hgf hatf; have HBf := hide (below_app HB.out HO.out (by omega) _ hgf); have HOf := hide hof; have zf := hgf.size; simp only [World.size_alloc] at zf; clear hof hgf hatf)
        go_roundw
        case rel => exact ⟨k + 1, by omega, by go_num, by rw [HY.out]; go_num, by rw [HY.out]; exact HOf.out, HBf.out⟩
        case measure => simp [intOf]; omega
      · have HN := hide (ptS_no (fun h => hb (hc.symm.trans h)))
        have hbb : (c == b) = false := by simpa using hb
        obtain ⟨⟨ps, f⟩, hpf⟩ : ∃ q, ptS s b k = q := ⟨_, rfl⟩
        rw [hpf] at HO HN hle ⊢
        dsimp only at HO ⊢
        clear ho hbel hpf hc hb
        go_wp2_with fail
        go_roundw
        case rel => exact ⟨k + 1, by omega, by go_num, by rw [HN.out], by rw [HN.out]; exact HO.out, HB.out⟩
        case measure => simp [intOf]; omega
    · obtain rfl : k = n := by omega
      obtain ⟨⟨ps, f⟩, hpf⟩ : ∃ q, ptS s b k = q := ⟨_, rfl⟩
      rw [hpf] at HO HP hle ⊢
      obtain ⟨hle1, hle2⟩ := hle
      dsimp only at hle1 hle2 HO HP ⊢
      have j0 : (0 : Int) ≤ (f : Int) := by omega
      have j1 : (f : Int) ≤ (k : Int) := by omega
      clear ho hbel hpf hlt
      go_wp2_with (at_builtin; refine wpList_app rfl _ _ rfl rfl rfl (app1s HO.out (by omega) (by omega) (s.extract f k)) ?_; intro vf wf hof hgf hatf; have HBf := hide (below_app HB.out HO.out (by omega) _ hgf); have HOf := hide hof; clear hof hgf hatf)
      go_ret
      exact ⟨_, rfl, by rw [HP.out]; exact HOf.out, HBf.out⟩
def ptT (s : ByteArray) (b : Int) (k : Nat) : List ByteArray × Nat := if k ≤ s.size then ptS s b k else (partsL s b, k)
set_option maxRecDepth 20000 in
set_option maxHeartbeats 1000000 in
theorem sparts_any (s : ByteArray) (b : Int) (w : World) (hs : s.size ≤ 1048576) :
    Calls Tryd.prog 30 #[.string s, .int .u8 b] w fun e w' => ∃ v, e = .returned v ∧ Own 1 encStr 9 w' w.heap.size v (partsL s b) ∧ Below w.heap.size w w' := by
  obtain ⟨n, hn⟩ : ∃ n, s.size = n := ⟨_, rfl⟩
  have HP := hide (show partsL s b = (ptS s b n).1 ++ [s.extract (ptS s b n).2 n] by rw [← hn]; rfl)
  have HT := hide (fun (k : Nat) (h : k ≤ n) => (show ptT s b k = ptS s b k from if_pos (by omega)))
  have HT2 := hide (show ptT s b (n + 1) = (partsL s b, n + 1) from if_neg (by omega))
  rw [hn] at hs
  go_enter Tryd.func30, Tryd.ntmps30
  go_wp2_with fail
  go_loopw [5, 6, 7] (fun o f i wr => ∃ k : Nat, k ≤ n + 1 ∧ i = .int .i64 k ∧ f = .int .i64 (ptT s b k).2 ∧ Own 1 encStr 9 wr w.heap.size o (ptT s b k).1 ∧ Below w.heap.size w wr) (fun _ _ i _ => n + 1 - (intOf i).toNat)
  case atStart => exact ⟨0, Nat.zero_le _, rfl, by rw [HT.out 0 (Nat.zero_le _)]; rfl, by rw [HT.out 0 (Nat.zero_le _)]; exact ownS_lit0 w 9 w.heap.size (Nat.le_refl _) rfl, (by repeat (first | with_reducible exact Below.refl _ _ | with_reducible assumption | with_reducible refine Below.setCell ?_ (by (try simp) <;> omega) _ | with_reducible refine Below.alloc ?_ (by (try simp) <;> omega) _ | with_reducible refine Below.drew ?_ | with_reducible refine below_drewN ?_ _))⟩
  case round =>
    obtain ⟨k, hk, rfl, rfl, ho, hbel⟩ := hrel
    have HB := hide hbel
    have y1 := hbel.size
    have hle := ptS_le s b k
    by_cases hlt : k < n
    · rw [HT.out k (by omega)] at ho ⊢
      have HTK := hide (HT.out (k + 1) (by omega))
      have HO := hide ho
      have i0 : (0 : Int) ≤ (k : Int) := by omega
      have i1 : (k : Int) < (n : Int) := by omega
      have i2 : (k : Int) ≤ (n : Int) := by omega
      have i3 : ((k : Int) == (n : Int)) = false := by rw [beq_eq_false_iff_ne]; omega
      have hcc := byte_at (s := s) (k := k) (by omega)
      obtain ⟨c, hc⟩ : ∃ c, byteN s k = c := ⟨_, rfl⟩
      rw [hc] at hcc
      by_cases hb : c = b
      · have HY := hide (ptS_yes (hc.trans hb))
        obtain ⟨⟨ps, f⟩, hpf⟩ : ∃ q, ptS s b k = q := ⟨_, rfl⟩
        rw [hpf] at HO HY hle ⊢
        subst hb
        obtain ⟨hle1, hle2⟩ := hle
        dsimp only at hle1 hle2 HO HY ⊢
        have j0 : (0 : Int) ≤ (f : Int) := by omega
        have j1 : (f : Int) ≤ (k : Int) := by omega
        clear ho hbel hpf hc
        go_wp2_with (at_builtin; refine wpList_app rfl _ _ rfl rfl rfl (app1s HO.out (by omega) (by omega) (s.extract f k)) ?_; intro vf wf hof hgf hatf; have HBf := hide (below_app HB.out HO.out (by omega) _ hgf); have HOf := hide hof; have zf := hgf.size; simp only [World.size_alloc] at zf; clear hof hgf hatf)
        go_roundw
        case rel => exact ⟨k + 1, by omega, by go_num, by rw [HTK.out, HY.out]; go_num, by rw [HTK.out, HY.out]; exact HOf.out, HBf.out⟩
        case measure => simp [intOf]; omega
      · have HN := hide (ptS_no (fun h => hb (hc.symm.trans h)))
        have hbb : (c == b) = false := by simpa using hb
        obtain ⟨⟨ps, f⟩, hpf⟩ : ∃ q, ptS s b k = q := ⟨_, rfl⟩
        rw [hpf] at HO HN hle ⊢
        dsimp only at HO ⊢
        clear ho hbel hpf hc hb
        go_wp2_with fail
        go_roundw
        case rel => exact ⟨k + 1, by omega, by go_num, by rw [HTK.out, HN.out], by rw [HTK.out, HN.out]; exact HO.out, HB.out⟩
        case measure => simp [intOf]; omega
    · by_cases hkn : k = n
      · subst hkn
        rw [HT.out k (by omega)] at ho ⊢
        have HO := hide ho
        obtain ⟨⟨ps, f⟩, hpf⟩ : ∃ q, ptS s b k = q := ⟨_, rfl⟩
        rw [hpf] at HO HP hle ⊢
        obtain ⟨hle1, hle2⟩ := hle
        dsimp only at hle1 hle2 HO HP ⊢
        have j0 : (0 : Int) ≤ (f : Int) := by omega
        have j1 : (f : Int) ≤ (k : Int) := by omega
        have j2 : (0 : Int) ≤ (k : Int) := by omega
        clear ho hbel hpf hlt
        go_wp2_with (at_builtin; refine wpList_app rfl _ _ rfl rfl rfl (app1s HO.out (by omega) (by omega) (s.extract f k)) ?_; intro vf wf hof hgf hatf; have HBf := hide (below_app HB.out HO.out (by omega) _ hgf); have HOf := hide hof; clear hof hgf hatf)
        go_roundw
        case rel => exact ⟨k + 1, by omega, by go_num, by rw [HT2.out]; rfl, by rw [HT2.out]; show Own _ _ _ _ _ _ (partsL s b); rw [HP.out]; exact HOf.out, HBf.out⟩
        case measure => first | omega | (simp [intOf]; done) | (simp [intOf]; omega)
      · obtain rfl : k = n + 1 := by omega
        rw [HT2.out] at ho ⊢
        have HO := hide ho
        have hge : ¬ ((n : Int) + 1 ≤ (n : Int)) := by omega
        clear ho hbel hlt hkn
        go_wp2_with fail
        go_ret
        exact ⟨_, rfl, HO.out, HB.out⟩
end Go.Proofs.YtcjcmdikopipjaaDoor
