/- Parts of a string, put together again. No program in sight. -/
import Derived.Test.YtcjcmdikopipjaaDoorStr
namespace Go.Proofs.YtcjcmdikopipjaaDoor
open Go.ChangeShapes Go.WideShapes Go.ChangeAt Go.RowKit Go.Deep
set_option linter.unusedVariables false
set_option linter.unusedSimpArgs false

/-- Parts with d between them. -/
def jnB (d : ByteArray) : List ByteArray → ByteArray
  | [] => ByteArray.empty
  | x :: xs => xs.foldl (fun a y => (a ++ d) ++ y) x
theorem jnB_one (d x : ByteArray) : jnB d [x] = x := rfl
theorem jnB_snoc (d y : ByteArray) : ∀ l : List ByteArray, l ≠ [] → jnB d (l ++ [y]) = (jnB d l ++ d) ++ y
  | [], h => absurd rfl h
  | x :: xs, _ => by
    show (xs ++ [y]).foldl _ x = _
    rw [List.foldl_append]
    rfl
def tl (x : ByteArray) : List UInt8 := x.data.toList
theorem tl_app (a b : ByteArray) : tl (a ++ b) = tl a ++ tl b := by
  unfold tl
  rw [ByteArray.data_append, Array.toList_append]
theorem tl_ext (s : ByteArray) (f k : Nat) : tl (s.extract f k) = ((tl s).take k).drop f := by
  unfold tl
  rw [ByteArray.data_extract, Array.toList_extract]
  simp [List.extract, List.drop_take]
theorem tl_inj {a b : ByteArray} (h : tl a = tl b) : a = b := by
  cases a
  cases b
  congr 1
  exact Array.toList_inj.1 h
theorem pt_inv (s : ByteArray) (b : Int) (d : UInt8) (hd : (d.toNat : Int) = b) : ∀ k, k ≤ s.size →
    (if (ptS s b k).1 = [] then [] else tl (jnB ⟨#[d]⟩ (ptS s b k).1) ++ [d]) ++ ((tl s).take k).drop (ptS s b k).2 = (tl s).take k ∧ ((ptS s b k).1 = [] → (ptS s b k).2 = 0)
  | 0, _ => by simp [ptS]
  | k + 1, hk => by
    have ⟨ih, ih2⟩ := pt_inv s b d hd k (by omega)
    have hle := ptS_le s b k
    have hl : k < (tl s).length := by
      show k < s.data.toList.length
      have : s.data.toList.length = s.size := Array.length_toList
      omega
    have ht : (tl s).take (k + 1) = (tl s).take k ++ [(tl s)[k]] := List.take_succ_eq_append_getElem hl
    have hbn : byteN s k = ((tl s)[k].toNat : Int) := by
      unfold byteN
      change ((((tl s).getD k 0).toNat : Nat) : Int) = _
      rw [List.getD_eq_getElem?_getD, List.getElem?_eq_getElem hl]
      rfl
    by_cases hb : byteN s k = b
    · rw [ptS_yes hb]
      refine ⟨?_, fun h => by simp at h⟩
      have e1 : (tl s)[k] = d := by
        rw [hbn] at hb
        have : (tl s)[k].toNat = d.toNat := by omega
        exact UInt8.toNat_inj.1 this
      have e2 : tl (jnB ⟨#[d]⟩ ((ptS s b k).1 ++ [s.extract (ptS s b k).2 k])) = (tl s).take k := by
        by_cases ho : (ptS s b k).1 = []
        · rw [ho, List.nil_append, jnB_one, tl_ext, ih2 ho, List.drop_zero]
        · rw [if_neg ho] at ih
          rw [jnB_snoc _ _ _ ho, tl_app, tl_app, tl_ext]
          exact ih
      rw [if_neg (by simp), e2, ht, e1]
      simp
      omega
    · rw [ptS_no hb]
      refine ⟨?_, ih2⟩
      rw [ht, List.drop_append_of_le_length (by rw [List.length_take]; omega), ← List.append_assoc, ih]
theorem parts_join (s : ByteArray) (b : Int) (d : UInt8) (hd : (d.toNat : Int) = b) : jnB ⟨#[d]⟩ (partsL s b) = s := by
  have ⟨ih, ih2⟩ := pt_inv s b d hd s.size (Nat.le_refl _)
  have hall : (tl s).take s.size = tl s := List.take_of_length_le (by
    show s.data.toList.length ≤ s.size
    exact Nat.le_of_eq Array.length_toList)
  apply tl_inj
  unfold partsL
  by_cases ho : (ptS s b s.size).1 = []
  · rw [ho, List.nil_append, jnB_one, tl_ext, ih2 ho, List.drop_zero, hall]
  · rw [if_neg ho] at ih
    rw [jnB_snoc _ _ _ ho, tl_app, tl_app, tl_ext]
    exact ih.trans hall
theorem ext_size (s : ByteArray) (f k : Nat) : (s.extract f k).size ≤ s.size := by
  rw [ByteArray.size_extract]
  omega
theorem ptS_size (s : ByteArray) (b : Int) : ∀ k, ∀ x ∈ (ptS s b k).1, x.size ≤ s.size
  | 0, x, h => by simp [ptS] at h
  | k + 1, x, h => by
    unfold ptS at h
    split at h
    · rw [List.mem_append, List.mem_singleton] at h
      rcases h with h | rfl
      · exact ptS_size s b k x h
      · exact ext_size s _ _
    · exact ptS_size s b k x h
theorem partsL_size (s : ByteArray) (b : Int) : ∀ x ∈ partsL s b, x.size ≤ s.size := by
  intro x h
  unfold partsL at h
  rw [List.mem_append, List.mem_singleton] at h
  rcases h with h | rfl
  · exact ptS_size s b _ x h
  · exact ext_size s _ _
theorem partsL_pos (s : ByteArray) (b : Int) : 0 < (partsL s b).length := by
  unfold partsL
  simp
end Go.Proofs.YtcjcmdikopipjaaDoor
