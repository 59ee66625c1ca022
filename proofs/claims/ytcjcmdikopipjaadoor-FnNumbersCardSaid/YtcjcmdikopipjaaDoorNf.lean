/- Plain facts for FnNumbers. -/
import Derived.Test.YtcjcmdikopipjaaDoorNum
import Derived.Test.YtcjcmdikopipjaaDoorDn
import Derived.Test.YtcjcmdikopipjaaDoorSst
import Derived.Test.YtcjcmdikopipjaaDoorD1
import Derived.Lib.ItoaLen
namespace Go.Proofs.YtcjcmdikopipjaaDoor
open Go.ChangeShapes Go.WideShapes Go.ChangeAt Go.RowKit Go.Deep
set_option linter.unusedVariables false
set_option linter.unusedSimpArgs false

/-- Parts with d between them. -/
def jnB (d : ByteArray) : List ByteArray → ByteArray
  | [] => ByteArray.empty
  | x :: xs => xs.foldl (fun a y => (a ++ d) ++ y) x
theorem jnB_one (d x : ByteArray) : jnB d [x] = x := rfl
theorem jnB_snoc (d y : ByteArray) : ∀ l : List ByteArray, l ≠ [] → jnB d (l ++ [y]) = (jnB d l ++ d) ++ y
  | [], h => absurd rfl h
  | x :: xs, _ => by
    show (xs ++ [y]).foldl _ x = _
    rw [List.foldl_append]
    rfl
def tl (x : ByteArray) : List UInt8 := x.data.toList
theorem tl_app (a b : ByteArray) : tl (a ++ b) = tl a ++ tl b := by
  unfold tl
  rw [ByteArray.data_append, Array.toList_append]
theorem tl_ext (s : ByteArray) (f k : Nat) : tl (s.extract f k) = ((tl s).take k).drop f := by
  unfold tl
  rw [ByteArray.data_extract, Array.toList_extract]
  simp [List.extract, List.drop_take]
theorem tl_inj {a b : ByteArray} (h : tl a = tl b) : a = b := by
  cases a
  cases b
  congr 1
  exact Array.toList_inj.1 h
theorem pt_inv (s : ByteArray) (b : Int) (d : UInt8) (hd : (d.toNat : Int) = b) : ∀ k, k ≤ s.size →
    (if (ptS s b k).1 = [] then [] else tl (jnB ⟨#[d]⟩ (ptS s b k).1) ++ [d]) ++ ((tl s).take k).drop (ptS s b k).2 = (tl s).take k ∧ ((ptS s b k).1 = [] → (ptS s b k).2 = 0)
  | 0, _ => by simp [ptS]
  | k + 1, hk => by
    have ⟨ih, ih2⟩ := pt_inv s b d hd k (by omega)
    have hle := ptS_le s b k
    have hl : k < (tl s).length := by
      show k < s.data.toList.length
      have : s.data.toList.length = s.size := Array.length_toList
      omega
    have ht : (tl s).take (k + 1) = (tl s).take k ++ [(tl s)[k]] := List.take_succ_eq_append_getElem hl
    have hbn : byteN s k = ((tl s)[k].toNat : Int) := by
      unfold byteN
      change ((((tl s).getD k 0).toNat : Nat) : Int) = _
      rw [List.getD_eq_getElem?_getD, List.getElem?_eq_getElem hl]
      rfl
    by_cases hb : byteN s k = b
    · rw [ptS_yes hb]
      refine ⟨?_, fun h => by simp at h⟩
      have e1 : (tl s)[k] = d := by
        rw [hbn] at hb
        have : (tl s)[k].toNat = d.toNat := by omega
        exact UInt8.toNat_inj.1 this
      have e2 : tl (jnB ⟨#[d]⟩ ((ptS s b k).1 ++ [s.extract (ptS s b k).2 k])) = (tl s).take k := by
        by_cases ho : (ptS s b k).1 = []
        · rw [ho, List.nil_append, jnB_one, tl_ext, ih2 ho, List.drop_zero]
        · rw [if_neg ho] at ih
          rw [jnB_snoc _ _ _ ho, tl_app, tl_app, tl_ext]
          exact ih
      rw [if_neg (by simp), e2, ht, e1]
      simp
      omega
    · rw [ptS_no hb]
      refine ⟨?_, ih2⟩
      rw [ht, List.drop_append_of_le_length (by rw [List.length_take]; omega), ← List.append_assoc, ih]
theorem parts_join (s : ByteArray) (b : Int) (d : UInt8) (hd : (d.toNat : Int) = b) : jnB ⟨#[d]⟩ (partsL s b) = s := by
  have ⟨ih, ih2⟩ := pt_inv s b d hd s.size (Nat.le_refl _)
  have hall : (tl s).take s.size = tl s := List.take_of_length_le (by
    show s.data.toList.length ≤ s.size
    exact Nat.le_of_eq Array.length_toList)
  apply tl_inj
  unfold partsL
  by_cases ho : (ptS s b s.size).1 = []
  · rw [ho, List.nil_append, jnB_one, tl_ext, ih2 ho, List.drop_zero, hall]
  · rw [if_neg ho] at ih
    rw [jnB_snoc _ _ _ ho, tl_app, tl_app, tl_ext]
    exact ih.trans hall
theorem ext_size (s : ByteArray) (f k : Nat) : (s.extract f k).size ≤ s.size := by
  rw [ByteArray.size_extract]
  omega
theorem ptS_size (s : ByteArray) (b : Int) : ∀ k, ∀ x ∈ (ptS s b k).1, x.size ≤ s.size
  | 0, x, h => by simp [ptS] at h
  | k + 1, x, h => by
    unfold ptS at h
    split at h
    · rw [List.mem_append, List.mem_singleton] at h
      rcases h with h | rfl
      · exact ptS_size s b k x h
      · exact ext_size s _ _
    · exact ptS_size s b k x h
theorem partsL_size (s : ByteArray) (b : Int) : ∀ x ∈ partsL s b, x.size ≤ s.size := by
  intro x h
  unfold partsL at h
  rw [List.mem_append, List.mem_singleton] at h
  rcases h with h | rfl
  · exact ptS_size s b _ x h
  · exact ext_size s _ _
theorem partsL_pos (s : ByteArray) (b : Int) : 0 < (partsL s b).length := by
  unfold partsL
  simp
theorem map_key (ks : List Int) (n : Nat) (h : ks.length = n) : (rng n).map (keyAt ks) = ks := by
  subst h
  apply List.ext_getElem?
  intro i
  rw [List.getElem?_map]
  by_cases hi : i < ks.length
  · rw [List.getElem?_eq_getElem (by rw [rng_len]; exact hi), List.getElem?_eq_getElem hi]
    simp only [Option.map_some]
    congr 1
    simp [rng, keyAt, List.getD_eq_getElem?_getD, hi]
  · rw [List.getElem?_eq_none (by rw [rng_len]; omega), List.getElem?_eq_none (by omega)]
    rfl
/-- The keys in the order of the sort. -/
def sKeys (ks : List Int) (n : Nat) : List Int := (sortBy ks false (rng n)).map (keyAt ks)
theorem sKeys_len (ks : List Int) (n : Nat) : (sKeys ks n).length = n := by
  unfold sKeys
  rw [List.length_map, sortBy_len, rng_len]
theorem sKeys_perm (ks : List Int) (n : Nat) (h : ks.length = n) : (sKeys ks n).Perm ks := by
  have := (sortBy_perm ks false (rng n)).map (keyAt ks)
  rwa [map_key ks n h] at this
theorem sum_permN {a b : List Int} (h : a.Perm b) : a.sum = b.sum := by
  induction h with
  | nil => rfl
  | cons x _ ih => simp [ih]
  | swap x y l => simp only [List.sum_cons]; omega
  | trans _ _ h1 h2 => exact h1.trans h2
theorem sKeys_sum (ks : List Int) (n : Nat) (h : ks.length = n) : sumB (sKeys ks n) = sumB ks := sum_permN ((sKeys_perm ks n h).map _)
theorem sKeys_sorted (ks : List Int) (n : Nat) : (sKeys ks n).Pairwise (· ≤ ·) := by
  unfold sKeys
  rw [List.pairwise_map]
  refine (sortBy_sorted ks false (rng n)).imp ?_
  intro a b h
  rcases (leK_iff _ _ _ _).1 h with ⟨h, _⟩ | ⟨_, h⟩
  · cases h
  · omega
theorem sort_again (ks : List Int) (n : Nat) (h : ks.length = n) (hs : ks.Pairwise (· ≤ ·)) : sortBy ks false (rng n) = rng n := by
  refine (sortBy_unique ?_ (List.Perm.refl _)).symm
  rw [List.pairwise_iff_getElem]
  intro i j hi hj hij
  rw [rng_len] at hi hj
  have h1 : keyAt ks ((rng n)[i]'(by rw [rng_len]; exact hi)) = ks[i]'(by omega) := by
    simp [rng, keyAt, List.getD_eq_getElem?_getD, h, hi]
  have h2 : keyAt ks ((rng n)[j]'(by rw [rng_len]; exact hj)) = ks[j]'(by omega) := by
    simp [rng, keyAt, List.getD_eq_getElem?_getD, h, hj]
  have h3 := List.pairwise_iff_getElem.1 hs i j (by omega) (by omega) hij
  have h4 : (rng n)[i]'(by rw [rng_len]; exact hi) = (i : Int) := by simp [rng]
  have h5 : (rng n)[j]'(by rw [rng_len]; exact hj) = (j : Int) := by simp [rng]
  rw [leK_iff]
  right
  refine ⟨rfl, ?_⟩
  rw [h1, h2, h4, h5]
  omega
theorem numR_dig (x : Int) (h0 : -9223372036854775808 ≤ x) (h1 : x ≤ 9223372036854775807) : numR (digS x) = if 0 ≤ x ∧ x ≤ 999999 then (x, true) else (0, false) := by
  unfold numR
  by_cases h : 0 ≤ x ∧ x ≤ 999999
  · obtain ⟨n, rfl⟩ := Int.eq_ofNat_of_zero_le h.1
    obtain ⟨h2, h3⟩ := numOk_of (s := digS (n : Int)) rfl (by omega)
    rw [if_pos h, if_pos h2, h3]
  · rw [if_neg h, if_neg]
    intro hok
    rcases Int.lt_or_le x 0 with hx | hx
    · obtain ⟨k, rfl⟩ : ∃ k : Nat, x = -(k : Int) := ⟨x.natAbs, by omega⟩
      have hd := numOk_dig hok 45 (by
        unfold digS
        rw [Lib.itoa_neg k (by omega)]
        simp)
      unfold isDig at hd
      have e : (45 : UInt8).toNat = 45 := rfl
      omega
    · obtain ⟨n, rfl⟩ := Int.eq_ofNat_of_zero_le hx
      have := (numOk_iff.1 hok).2
      rw [valS_digS] at this
      omega
theorem digS_size (x : Int) (h0 : -9223372036854775808 ≤ x) (h1 : x ≤ 9223372036854775807) : (digS x).size ≤ 21 := by
  have := Lib.itoa_length_le x h0 h1
  unfold digS
  show (Lib.itoa x).toArray.size ≤ 21
  simpa using this
end Go.Proofs.YtcjcmdikopipjaaDoor
