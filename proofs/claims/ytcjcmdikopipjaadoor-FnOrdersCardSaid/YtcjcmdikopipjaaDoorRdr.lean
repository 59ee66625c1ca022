/- What is read from a text gives the text back: the plain laws. No program in sight. -/
import Derived.Test.YtcjcmdikopipjaaDoorRdq
namespace Go.Proofs.YtcjcmdikopipjaaDoor
open Go.ChangeShapes Go.WideShapes Go.ChangeAt Go.RowKit Go.Deep
set_option linter.unusedVariables false
set_option linter.unusedSimpArgs false

def palRow (r : Rq) : ORow := ((ByteArray.mk #[112, 97, 108, 108, 101, 116]), [r.pal.w, r.pal.d, r.pal.h, r.pal.gram])
/-- The rows that have been read, behind a line of a kind. -/
def prt (last : Int) (r : Rq) : List ORow :=
  if last = 0 then [] else if last = 1 then [palRow r] else
  (((headRows r ++ r.pairs.map prRow) ++ r.types.map tyRow) ++ (if 5 ≤ last then [mRow r.master] else [])) ++ r.items.map itRow
structure RdInv (last : Int) (r : Rq) (txt : ByteArray) : Prop where
  rng : 0 ≤ last ∧ last ≤ 6
  way : inB r.way 0 1 = true
  e2 : last ≤ 2 → r.pairs = []
  e3 : last ≤ 3 → r.types = []
  e5 : last ≤ 5 → r.items = []
  ok : (prt last r).all rowOk = true
  txt : txt = rowsT (wayS r.way) (prt last r)
theorem inv_row {last last' : Int} {r r' : Rq} {txt l : ByteArray} {x : ORow} (h : RdInv last r txt) (hw : r'.way = r.way) (hp : prt last' r' = prt last r ++ [x]) (hl : l = rowB x) (hx : rowOk x = true) :
    (prt last' r').all rowOk = true ∧ txt ++ (l ++ ByteArray.mk #[10]) = rowsT (wayS r'.way) (prt last' r') := by
  refine ⟨?_, ?_⟩
  · rw [hp, List.all_append, h.ok]
    simp [hx]
  · rw [hp, rowsT_snoc, hw, ← h.txt, rowT_ok hx, hl]
theorem list1 {xs : List Int} (h : xs.length = 1) : xs = [xs.getD 0 0] := by
  match xs, h with
  | [a], _ => rfl
theorem list2 {xs : List Int} (h : xs.length = 2) : xs = [xs.getD 0 0, xs.getD 1 0] := by
  match xs, h with
  | [a, b], _ => rfl
theorem list4 {xs : List Int} (h : xs.length = 4) : xs = [xs.getD 0 0, xs.getD 1 0, xs.getD 2 0, xs.getD 3 0] := by
  match xs, h with
  | [a, b, c, d], _ => rfl
theorem list7 {xs : List Int} (h : xs.length = 7) : xs = [xs.getD 0 0, xs.getD 1 0, xs.getD 2 0, xs.getD 3 0, xs.getD 4 0, xs.getD 5 0, xs.getD 6 0] := by
  match xs, h with
  | [a, b, c, d, e, f, g], _ => rfl
theorem line_row {l word : ByteArray} {cnt : Nat} {ns : List Int} (h : (numsR l word cnt).2 = true) (hns : (numsR l word cnt).1.length = cnt → (numsR l word cnt).1 = ns) : l = rowB (word, ns) ∧ rowOk (word, ns) = true := by
  obtain ⟨h1, h2, h3⟩ := numsR_line h
  have e := hns h3
  rw [e] at h1 h2
  exact ⟨h1, h2⟩
theorem inv_step {last : Int} {r : Rq} {txt l : ByteArray} (h : RdInv last r txt) (hm : mayF last (putL r l).2 = true) : RdInv (putL r l).2 (putL r l).1 (txt ++ (l ++ ByteArray.mk #[10])) := by
  have hr := h.rng
  rcases putL_cases r l with ⟨_, hk⟩ | ⟨hn, hk⟩ | ⟨hn, hk⟩ | ⟨hn, hk⟩ | ⟨hn, hk⟩ | ⟨hn, hk⟩ | ⟨hn, hk⟩ | hk
  · rw [hk] at hm
    have : last = -1 := by simpa [mayF] using hm
    omega
  · rw [hk] at hm
    obtain rfl : last = 0 := by simpa [mayF] using hm
    obtain ⟨h1, h2⟩ := line_row hn list4
    obtain ⟨g1, g2⟩ := inv_row (last' := 1) (r' := rPal r (numsR l (ByteArray.mk #[112, 97, 108, 108, 101, 116]) 4)) h rfl (by simp [prt, palRow, rPal, nAt]) h1 h2
    rw [putL_1 hn]
    exact ⟨by omega, h.way, fun _ => h.e2 (by omega), fun _ => h.e3 (by omega), fun _ => h.e5 (by omega), g1, g2⟩
  · rw [hk] at hm
    obtain rfl : last = 1 := by simpa [mayF] using hm
    obtain ⟨h1, h2⟩ := line_row hn list1
    have e2 := h.e2 (by omega)
    have e3 := h.e3 (by omega)
    have e5 := h.e5 (by omega)
    obtain ⟨g1, g2⟩ := inv_row (last' := 2) (r' := rCls r (numsR l (ByteArray.mk #[99, 108, 97, 115, 115, 101, 115]) 1)) h rfl (by simp [prt, palRow, rCls, nAt, headRows, e2, e3, e5]) h1 h2
    rw [putL_2 hn]
    exact ⟨by omega, h.way, fun _ => e2, fun _ => e3, fun _ => e5, g1, g2⟩
  · rw [hk] at hm
    have hl : last = 2 ∨ last = 3 := by simpa [mayF] using hm
    obtain ⟨h1, h2⟩ := line_row hn list2
    have e3 := h.e3 (by omega)
    have e5 := h.e5 (by omega)
    obtain ⟨g1, g2⟩ := inv_row (last' := 3) (r' := rPr r (numsR l (ByteArray.mk #[119, 105, 116, 104]) 2)) h rfl (by rcases hl with rfl | rfl <;> simp [prt, rPr, nAt, headRows, prRow, e3, e5]) h1 h2
    rw [putL_3 hn]
    exact ⟨by omega, h.way, fun h => by omega, fun _ => e3, fun _ => e5, g1, g2⟩
  · rw [hk] at hm
    have hl : 2 ≤ last ∧ last ≤ 4 := by simpa [mayF, inB_iff] using hm
    have hl' : last = 2 ∨ last = 3 ∨ last = 4 := by omega
    obtain ⟨h1, h2⟩ := line_row hn list7
    have e5 := h.e5 (by omega)
    obtain ⟨g1, g2⟩ := inv_row (last' := 4) (r' := rTy r (numsR l (ByteArray.mk #[116, 121, 112, 101]) 7)) h rfl (by rcases hl' with rfl | rfl | rfl <;> simp [prt, rTy, nAt, headRows, tyRow, e5]) h1 h2
    rw [putL_4 hn]
    exact ⟨by omega, h.way, fun h => by omega, fun h => by omega, fun _ => e5, g1, g2⟩
  · rw [hk] at hm
    have hl : 2 ≤ last ∧ last ≤ 4 := by simpa [mayF, inB_iff] using hm
    have hl' : last = 2 ∨ last = 3 ∨ last = 4 := by omega
    obtain ⟨h1, h2⟩ := line_row hn list1
    have e5 := h.e5 (by omega)
    obtain ⟨g1, g2⟩ := inv_row (last' := 5) (r' := rMas r (numsR l (ByteArray.mk #[109, 97, 115, 116, 101, 114]) 1)) h rfl (by rcases hl' with rfl | rfl | rfl <;> simp [prt, rMas, nAt, headRows, mRow, e5]) h1 h2
    rw [putL_5 hn]
    exact ⟨by omega, h.way, fun h => by omega, fun h => by omega, fun _ => e5, g1, g2⟩
  · rw [hk] at hm
    have hl : last = 5 ∨ last = 6 := by simpa [mayF] using hm
    obtain ⟨h1, h2⟩ := line_row hn list7
    obtain ⟨g1, g2⟩ := inv_row (last' := 6) (r' := rIt r (numsR l (ByteArray.mk #[105, 116, 101, 109]) 7)) h rfl (by rcases hl with rfl | rfl <;> simp [prt, rIt, nAt, headRows, itRow]) h1 h2
    rw [putL_6 hn]
    exact ⟨by omega, h.way, fun h => by omega, fun h => by omega, fun h => by omega, g1, g2⟩
  · rw [hk] at hm
    have : False := by simp [mayF] at hm
    exact this.elim
def catL : List ByteArray → ByteArray
  | [] => (ByteArray.mk #[])
  | l :: ls => (l ++ ByteArray.mk #[10]) ++ catL ls
theorem ba_nil (s : ByteArray) : s ++ (ByteArray.mk #[]) = s := ByteArray.append_empty
theorem ba_nil' (s : ByteArray) : (ByteArray.mk #[]) ++ s = s := ByteArray.empty_append
theorem inv_all (T : ByteArray) (y : Rq) : ∀ (ls : List ByteArray) (i : Nat) (r : Rq) (last : Int) (txt : ByteArray), RdInv last r txt → goA T ls i r last = (y, -1) → otS y = txt ++ catL ls ∧ T = (ByteArray.mk #[])
  | [], i, r, last, txt, h, hg => by
    unfold goA at hg
    split at hg
    · have := congrArg Prod.snd hg
      simp at this
    · rename_i hc
      have hc' : ¬ last < 5 ∧ T = (ByteArray.mk #[]) := by
        refine ⟨fun h => hc (.inl h), ?_⟩
        by_cases e : T = (ByteArray.mk #[])
        · exact e
        · exact absurd (.inr e) hc
      have hy : r = y := congrArg Prod.fst hg
      subst hy
      refine ⟨?_, hc'.2⟩
      have e : prt last r = orderRows r := by
        unfold prt orderRows
        rw [if_neg (by omega), if_neg (by omega), if_pos (by omega)]
      have h1 := h.ok
      have h2 := h.txt
      rw [e] at h1 h2
      unfold otS
      rw [if_pos h.way, if_pos h1, ← h2]
      exact (ba_nil txt).symm
  | l :: ls, i, r, last, txt, h, hg => by
    unfold goA at hg
    split at hg
    · rename_i hm
      obtain ⟨h1, h2⟩ := inv_all T y ls (i + 1) _ _ _ (inv_step h hm) hg
      refine ⟨?_, h2⟩
      rw [h1]
      show _ = txt ++ ((l ++ ByteArray.mk #[10]) ++ catL ls)
      rw [ByteArray.append_assoc]
    · have := congrArg Prod.snd hg
      simp at this
theorem jn_cat (T : ByteArray) : ∀ (ls : List ByteArray) (l : ByteArray), (ls ++ [T]).foldl (fun a y => (a ++ ByteArray.mk #[10]) ++ y) l = (l ++ ByteArray.mk #[10]) ++ catL ls ++ T
  | [], l => by
    show (l ++ ByteArray.mk #[10]) ++ T = (l ++ ByteArray.mk #[10]) ++ (ByteArray.mk #[]) ++ T
    rw [ba_nil]
  | x :: xs, l => by
    rw [List.cons_append, List.foldl_cons, jn_cat T xs]
    show _ = (l ++ ByteArray.mk #[10]) ++ ((x ++ ByteArray.mk #[10]) ++ catL xs) ++ T
    simp only [ByteArray.append_assoc]
theorem P_split {P : List ByteArray} (h : 0 < P.length) : P = lnL P ++ [lnT P] := by
  unfold lnL lnT
  apply List.ext_getElem?
  intro i
  by_cases hi : i < P.length - 1
  · rw [List.getElem?_append_left (by rw [List.length_take]; omega), List.getElem?_take, if_pos hi]
  · rw [List.getElem?_append_right (by rw [List.length_take]; omega), List.length_take, Nat.min_eq_left (by omega)]
    by_cases he : i = P.length - 1
    · subst he
      rw [Nat.sub_self, List.getElem?_cons_zero, List.getD_eq_getElem?_getD, List.getElem?_eq_getElem (by omega)]
      rfl
    · rw [List.getElem?_eq_none (by omega), List.getElem?_eq_none (by simp; omega)]
/-- What is read from a text gives it back. -/
theorem ot_read {s : ByteArray} {y : Rq} (h : readS s = (y, -1)) : otS y = s := by
  have hj := parts_join s 10 10 rfl
  have hpos := partsL_pos s 10
  unfold readS readL at h
  generalize partsL s 10 = P at h hj hpos
  split at h
  · have := congrArg Prod.snd h
    simp at this
  · have hP := P_split hpos
    generalize lnL P = ls at h hP
    generalize lnT P = T at h hP
    subst hP
    cases ls with
    | nil =>
      unfold goA at h
      rw [if_pos (.inl (by omega))] at h
      have := congrArg Prod.snd h
      simp at this
    | cons l ls =>
      have hj' : (l ++ ByteArray.mk #[10]) ++ catL ls ++ T = s := by
        rw [← hj]
        show _ = (ls ++ [T]).foldl _ l
        rw [jn_cat]
      have h0 := h
      unfold goA at h
      split at h
      · rename_i hm
        have hw : l = (ByteArray.mk #[119, 97, 121, 32, 102, 105, 114, 115, 116]) ∨ l = (ByteArray.mk #[119, 97, 121, 32, 110, 101, 120, 116]) := by
          rcases putL_cases rq0 l with ⟨hw, _⟩ | ⟨_, hk⟩ | ⟨_, hk⟩ | ⟨_, hk⟩ | ⟨_, hk⟩ | ⟨_, hk⟩ | ⟨_, hk⟩ | hk
          · exact hw
          all_goals (rw [hk] at hm; simp [mayF, inB] at hm)
        have hinv : RdInv (putL rq0 l).2 (putL rq0 l).1 (l ++ ByteArray.mk #[10]) := by
          rcases hw with rfl | rfl
          · rw [putL_wayF]
            exact ⟨by decide, by decide, fun _ => rfl, fun _ => rfl, fun _ => rfl, rfl, rfl⟩
          · rw [putL_wayN]
            exact ⟨by decide, by decide, fun _ => rfl, fun _ => rfl, fun _ => rfl, rfl, rfl⟩
        obtain ⟨h1, h2⟩ := inv_all T y ls _ _ _ _ hinv h
        rw [h1, ← hj', h2, ba_nil]
      · have := congrArg Prod.snd h
        simp at this
theorem goA_place (T : ByteArray) : ∀ (ls : List ByteArray) (i : Nat) (r : Rq) (last : Int), (goA T ls i r last).2 = -1 ∨ ((goA T ls i r last).1 = rq0 ∧ (i : Int) ≤ (goA T ls i r last).2 ∧ (goA T ls i r last).2 ≤ i + ls.length)
  | [], i, r, last => by
    unfold goA
    split
    · exact .inr ⟨rfl, by simp, by simp⟩
    · exact .inl rfl
  | l :: ls, i, r, last => by
    unfold goA
    split
    · rcases goA_place T ls (i + 1) (putL r l).1 (putL r l).2 with h | ⟨h1, h2, h3⟩
      · exact .inl h
      · exact .inr ⟨h1, by omega, by rw [List.length_cons]; omega⟩
    · exact .inr ⟨rfl, by simp, by simp; omega⟩
/-- Where a text is no order, its place is a line's, or behind them. -/
theorem read_place (s : ByteArray) : (readS s).2 = -1 ∨ ((readS s).1 = rq0 ∧ 0 ≤ (readS s).2 ∧ (readS s).2 < (partsL s 10).length) := by
  have hpos := partsL_pos s 10
  unfold readS readL
  split
  · rename_i h
    exact .inr ⟨rfl, by simp, by show (60 : Int) < _; omega⟩
  · rcases goA_place (lnT (partsL s 10)) (lnL (partsL s 10)) 0 rq0 (-1) with h | ⟨h1, h2, h3⟩
    · exact .inl h
    · refine .inr ⟨h1, by omega, ?_⟩
      unfold lnL at h3
      rw [List.length_take] at h3
      unfold lnL
      omega
theorem spL_len (d : UInt8) (m : List UInt8) : ∀ l, (spL d l).length ≤ (spL d (l ++ m)).length
  | [] => by
    have := List.length_pos_iff.2 (spL_ne d ([] ++ m))
    show 1 ≤ _
    omega
  | c :: r => by
    have ih := spL_len d m r
    show _ ≤ (spL d (c :: (r ++ m))).length
    unfold spL
    split
    · simp only [List.length_cons]
      omega
    · have h1 := spL_ne d r
      have h2 := spL_ne d (r ++ m)
      cases hq : spL d r with
      | nil => exact absurd hq h1
      | cons p ps =>
        cases hq2 : spL d (r ++ m) with
        | nil => exact absurd hq2 h2
        | cons p' ps' =>
          rw [hq, hq2] at ih
          simpa using ih
theorem parts_pre (s : ByteArray) (k : Nat) : (partsL (s.extract 0 k) 10).length ≤ (partsL s 10).length := by
  have h1 := congrArg List.length (parts_split (s.extract 0 k) 10 10 rfl)
  have h2 := congrArg List.length (parts_split s 10 10 rfl)
  rw [List.length_map] at h1 h2
  rw [h1, h2, tl_ext, List.drop_zero]
  have := spL_len 10 ((tl s).drop k) ((tl s).take k)
  rwa [List.take_append_drop] at this
end Go.Proofs.YtcjcmdikopipjaaDoor
