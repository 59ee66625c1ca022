/- Reading an order: what is read, in plain words. No program in sight. -/
import Derived.Test.YtcjcmdikopipjaaDoorNum
import Derived.Test.YtcjcmdikopipjaaDoorStr
namespace Go.Proofs.YtcjcmdikopipjaaDoor
open Go.ChangeShapes Go.WideShapes Go.ChangeAt Go.RowKit Go.Deep
set_option linter.unusedVariables false
set_option linter.unusedSimpArgs false

/-- The numbers of a line that begins with a word and has just so many; false: it is none. -/
def numsR (line word : ByteArray) (cnt : Nat) : List Int × Bool :=
  if (partsL line 32)[0]? = some word ∧ (partsL line 32).length = cnt + 1 ∧ ((partsL line 32).drop 1).all numOk = true
  then (((partsL line 32).drop 1).map fun s => (valS s : Int), true) else ([], false)
theorem numsR_head {line word : ByteArray} {cnt : Nat} (h : (numsR line word cnt).2 = true) : (partsL line 32)[0]? = some word := by
  unfold numsR at h
  split at h
  · rename_i hh; exact hh.1
  · cases h
theorem numsR_len {line word : ByteArray} {cnt : Nat} (h : (numsR line word cnt).2 = true) : (numsR line word cnt).1.length = cnt := by
  unfold numsR at h ⊢
  split at h
  · rename_i hh
    rw [if_pos hh, List.length_map, List.length_drop]
    omega
  · cases h
theorem numsR_no {line word word' : ByteArray} {cnt cnt' : Nat} (h : (numsR line word cnt).2 = true) (hne : word ≠ word') : (numsR line word' cnt').2 = false := by
  cases h2 : (numsR line word' cnt').2
  · rfl
  · have h3 := numsR_head h
    rw [numsR_head h2] at h3
    exact absurd (Option.some.inj h3).symm hne
def nAt (q : List Int × Bool) (i : Nat) : Int := q.1.getD i 0
def rPal (r : Rq) (q : List Int × Bool) : Rq := { r with pal := ⟨nAt q 0, nAt q 1, nAt q 2, nAt q 3⟩ }
def rCls (r : Rq) (q : List Int × Bool) : Rq := { r with cls := nAt q 0 }
def rPr (r : Rq) (q : List Int × Bool) : Rq := { r with pairs := r.pairs ++ [⟨nAt q 0, nAt q 1⟩] }
def rTy (r : Rq) (q : List Int × Bool) : Rq := { r with types := r.types ++ [⟨nAt q 0, nAt q 1, nAt q 2, nAt q 3, nAt q 4, nAt q 5, nAt q 6⟩] }
def rMas (r : Rq) (q : List Int × Bool) : Rq := { r with master := nAt q 0 }
def rIt (r : Rq) (q : List Int × Bool) : Rq := { r with items := r.items ++ [⟨nAt q 0, nAt q 1, nAt q 2, nAt q 3, nAt q 4, nAt q 5, nAt q 6⟩] }
/-- A line put into an order, and its kind. -/
def putL (r : Rq) (line : ByteArray) : Rq × Int :=
  if line = (ByteArray.mk #[119, 97, 121, 32, 102, 105, 114, 115, 116]) then ({ r with way := 0 }, 0) else
  if line = (ByteArray.mk #[119, 97, 121, 32, 110, 101, 120, 116]) then ({ r with way := 1 }, 0) else
  if (numsR line (ByteArray.mk #[112, 97, 108, 108, 101, 116]) 4).2 = true then (rPal r (numsR line (ByteArray.mk #[112, 97, 108, 108, 101, 116]) 4), 1) else
  if (numsR line (ByteArray.mk #[99, 108, 97, 115, 115, 101, 115]) 1).2 = true then (rCls r (numsR line (ByteArray.mk #[99, 108, 97, 115, 115, 101, 115]) 1), 2) else
  if (numsR line (ByteArray.mk #[119, 105, 116, 104]) 2).2 = true then (rPr r (numsR line (ByteArray.mk #[119, 105, 116, 104]) 2), 3) else
  if (numsR line (ByteArray.mk #[116, 121, 112, 101]) 7).2 = true then (rTy r (numsR line (ByteArray.mk #[116, 121, 112, 101]) 7), 4) else
  if (numsR line (ByteArray.mk #[109, 97, 115, 116, 101, 114]) 1).2 = true then (rMas r (numsR line (ByteArray.mk #[109, 97, 115, 116, 101, 114]) 1), 5) else
  if (numsR line (ByteArray.mk #[105, 116, 101, 109]) 7).2 = true then (rIt r (numsR line (ByteArray.mk #[105, 116, 101, 109]) 7), 6) else (r, -1)
def mayF (last kind : Int) : Bool :=
  if kind = 0 ∨ kind = 1 ∨ kind = 2 then last == kind - 1
  else if kind = 3 then (last == 2 || last == 3)
  else if kind = 4 then inB last 2 4
  else if kind = 5 then inB last 2 4
  else if kind = 6 then (last == 5 || last == 6) else false
def rq0 : Rq := ⟨0, ⟨0, 0, 0, 0⟩, 0, [], [], 0, []⟩
/-- The lines from place i on, behind an order so far and the kind of the last line. -/
def goA (tail : ByteArray) : List ByteArray → Nat → Rq → Int → Rq × Int
  | [], i, r, last => if last < 5 ∨ tail ≠ (ByteArray.mk #[]) then (rq0, (i : Int)) else (r, -1)
  | l :: ls, i, r, last => if mayF last (putL r l).2 = true then goA tail ls (i + 1) (putL r l).1 (putL r l).2 else (rq0, (i : Int))
def lnT (P : List ByteArray) : ByteArray := P.getD (P.length - 1) (ByteArray.mk #[])
def lnL (P : List ByteArray) : List ByteArray := P.take (P.length - 1)
def readL (P : List ByteArray) : Rq × Int := if 60 < P.length - 1 then (rq0, 60) else goA (lnT P) (lnL P) 0 rq0 (-1)
def readS (s : ByteArray) : Rq × Int := readL (partsL s 10)
theorem lnL_at {P : List ByteArray} {k n : Nat} {l : ByteArray} (hn : P.length = n + 1) (hk : k < n) (hl : P[k]? = some l) : (lnL P).drop k = l :: (lnL P).drop (k + 1) := by
  have h : (lnL P).length = n := by unfold lnL; rw [List.length_take]; omega
  have hk' : k < (lnL P).length := by omega
  rw [List.drop_eq_getElem_cons hk']
  congr 1
  have e : (lnL P)[k]? = some l := by
    unfold lnL
    rw [List.getElem?_take, if_pos (by omega), hl]
  rw [List.getElem?_eq_getElem hk'] at e
  exact Option.some.inj e
theorem lnL_end {P : List ByteArray} {n : Nat} (hn : P.length = n + 1) : (lnL P).drop n = [] := by
  rw [List.drop_eq_nil_iff]
  unfold lnL
  rw [List.length_take]
  omega
theorem lnT_at {P : List ByteArray} {n : Nat} {l : ByteArray} (hn : P.length = n + 1) (hl : P[n]? = some l) : lnT P = l := by
  unfold lnT
  rw [List.getD_eq_getElem?_getD, show P.length - 1 = n by omega, hl]
  rfl
theorem goA_yes {P : List ByteArray} {T l : ByteArray} {k n : Nat} {r : Rq} {last : Int} (hn : P.length = n + 1) (hk : k < n) (hl : P[k]? = some l) (h : mayF last (putL r l).2 = true) :
    goA T ((lnL P).drop k) k r last = goA T ((lnL P).drop (k + 1)) (k + 1) (putL r l).1 (putL r l).2 := by
  rw [lnL_at hn hk hl]
  show (if _ then _ else _) = _
  rw [if_pos h]
theorem goA_no {P : List ByteArray} {T l : ByteArray} {k n : Nat} {r : Rq} {last : Int} (hn : P.length = n + 1) (hk : k < n) (hl : P[k]? = some l) (h : mayF last (putL r l).2 = false) :
    goA T ((lnL P).drop k) k r last = (rq0, (k : Int)) := by
  rw [lnL_at hn hk hl]
  show (if _ then _ else _) = _
  rw [if_neg (by rw [h]; simp)]
theorem goA_bad {P : List ByteArray} {T : ByteArray} {n : Nat} {r : Rq} {last : Int} (hn : P.length = n + 1) (h : last < 5 ∨ T ≠ (ByteArray.mk #[])) : goA T ((lnL P).drop n) n r last = (rq0, (n : Int)) := by
  rw [lnL_end hn]
  show (if _ then _ else _) = _
  rw [if_pos h]
theorem goA_good {P : List ByteArray} {T : ByteArray} {n : Nat} {r : Rq} {last : Int} (hn : P.length = n + 1) (h : ¬ last < 5) (h2 : T = (ByteArray.mk #[])) : goA T ((lnL P).drop n) n r last = (r, -1) := by
  rw [lnL_end hn]
  show (if _ then _ else _) = _
  rw [if_neg (by rw [h2]; simp; omega)]
theorem head_wayF : (partsL (ByteArray.mk #[119, 97, 121, 32, 102, 105, 114, 115, 116]) 32)[0]? = some (ByteArray.mk #[119, 97, 121]) := by decide +kernel
theorem head_wayN : (partsL (ByteArray.mk #[119, 97, 121, 32, 110, 101, 120, 116]) 32)[0]? = some (ByteArray.mk #[119, 97, 121]) := by decide +kernel
theorem numsR_way {line word : ByteArray} {cnt : Nat} (h : (numsR line word cnt).2 = true) (hne : word ≠ (ByteArray.mk #[119, 97, 121])) : ¬ line = (ByteArray.mk #[119, 97, 121, 32, 102, 105, 114, 115, 116]) ∧ ¬ line = (ByteArray.mk #[119, 97, 121, 32, 110, 101, 120, 116]) := by
  have h1 := numsR_head h
  refine ⟨fun e => ?_, fun e => ?_⟩
  · rw [e, head_wayF] at h1
    exact hne (Option.some.inj h1).symm
  · rw [e, head_wayN] at h1
    exact hne (Option.some.inj h1).symm
theorem putL_1 {r : Rq} {line : ByteArray} (h : (numsR line (ByteArray.mk #[112, 97, 108, 108, 101, 116]) 4).2 = true) : putL r line = (rPal r (numsR line (ByteArray.mk #[112, 97, 108, 108, 101, 116]) 4), 1) := by
  obtain ⟨h1, h2⟩ := numsR_way h (by decide)
  unfold putL
  rw [if_neg h1, if_neg h2, if_pos h]
theorem putL_2 {r : Rq} {line : ByteArray} (h : (numsR line (ByteArray.mk #[99, 108, 97, 115, 115, 101, 115]) 1).2 = true) : putL r line = (rCls r (numsR line (ByteArray.mk #[99, 108, 97, 115, 115, 101, 115]) 1), 2) := by
  obtain ⟨h1, h2⟩ := numsR_way h (by decide)
  unfold putL
  rw [if_neg h1, if_neg h2, numsR_no h (word' := (ByteArray.mk #[112, 97, 108, 108, 101, 116])) (by decide), if_pos h, if_neg (by simp)]
theorem putL_3 {r : Rq} {line : ByteArray} (h : (numsR line (ByteArray.mk #[119, 105, 116, 104]) 2).2 = true) : putL r line = (rPr r (numsR line (ByteArray.mk #[119, 105, 116, 104]) 2), 3) := by
  obtain ⟨h1, h2⟩ := numsR_way h (by decide)
  unfold putL
  rw [if_neg h1, if_neg h2, numsR_no h (word' := (ByteArray.mk #[112, 97, 108, 108, 101, 116])) (by decide), numsR_no h (word' := (ByteArray.mk #[99, 108, 97, 115, 115, 101, 115])) (by decide), if_pos h, if_neg (by simp), if_neg (by simp)]
theorem putL_4 {r : Rq} {line : ByteArray} (h : (numsR line (ByteArray.mk #[116, 121, 112, 101]) 7).2 = true) : putL r line = (rTy r (numsR line (ByteArray.mk #[116, 121, 112, 101]) 7), 4) := by
  obtain ⟨h1, h2⟩ := numsR_way h (by decide)
  unfold putL
  rw [if_neg h1, if_neg h2, numsR_no h (word' := (ByteArray.mk #[112, 97, 108, 108, 101, 116])) (by decide), numsR_no h (word' := (ByteArray.mk #[99, 108, 97, 115, 115, 101, 115])) (by decide), numsR_no h (word' := (ByteArray.mk #[119, 105, 116, 104])) (by decide), if_pos h, if_neg (by simp), if_neg (by simp), if_neg (by simp)]
theorem putL_5 {r : Rq} {line : ByteArray} (h : (numsR line (ByteArray.mk #[109, 97, 115, 116, 101, 114]) 1).2 = true) : putL r line = (rMas r (numsR line (ByteArray.mk #[109, 97, 115, 116, 101, 114]) 1), 5) := by
  obtain ⟨h1, h2⟩ := numsR_way h (by decide)
  unfold putL
  rw [if_neg h1, if_neg h2, numsR_no h (word' := (ByteArray.mk #[112, 97, 108, 108, 101, 116])) (by decide), numsR_no h (word' := (ByteArray.mk #[99, 108, 97, 115, 115, 101, 115])) (by decide), numsR_no h (word' := (ByteArray.mk #[119, 105, 116, 104])) (by decide), numsR_no h (word' := (ByteArray.mk #[116, 121, 112, 101])) (by decide), if_pos h, if_neg (by simp), if_neg (by simp), if_neg (by simp), if_neg (by simp)]
theorem putL_6 {r : Rq} {line : ByteArray} (h : (numsR line (ByteArray.mk #[105, 116, 101, 109]) 7).2 = true) : putL r line = (rIt r (numsR line (ByteArray.mk #[105, 116, 101, 109]) 7), 6) := by
  obtain ⟨h1, h2⟩ := numsR_way h (by decide)
  unfold putL
  rw [if_neg h1, if_neg h2, numsR_no h (word' := (ByteArray.mk #[112, 97, 108, 108, 101, 116])) (by decide), numsR_no h (word' := (ByteArray.mk #[99, 108, 97, 115, 115, 101, 115])) (by decide), numsR_no h (word' := (ByteArray.mk #[119, 105, 116, 104])) (by decide), numsR_no h (word' := (ByteArray.mk #[116, 121, 112, 101])) (by decide), numsR_no h (word' := (ByteArray.mk #[109, 97, 115, 116, 101, 114])) (by decide), if_pos h, if_neg (by simp), if_neg (by simp), if_neg (by simp), if_neg (by simp), if_neg (by simp)]
theorem putL_wayF (r : Rq) : putL r (ByteArray.mk #[119, 97, 121, 32, 102, 105, 114, 115, 116]) = ({ r with way := 0 }, 0) := by
  unfold putL
  rw [if_pos rfl]
theorem putL_wayN (r : Rq) : putL r (ByteArray.mk #[119, 97, 121, 32, 110, 101, 120, 116]) = ({ r with way := 1 }, 0) := by
  unfold putL
  rw [if_neg (by decide), if_pos rfl]
/-- Which kind a line has, and what it tells. -/
theorem putL_cases (r : Rq) (line : ByteArray) :
    ((line = (ByteArray.mk #[119, 97, 121, 32, 102, 105, 114, 115, 116]) ∨ line = (ByteArray.mk #[119, 97, 121, 32, 110, 101, 120, 116])) ∧ (putL r line).2 = 0) ∨ ((numsR line (ByteArray.mk #[112, 97, 108, 108, 101, 116]) 4).2 = true ∧ (putL r line).2 = 1) ∨ ((numsR line (ByteArray.mk #[99, 108, 97, 115, 115, 101, 115]) 1).2 = true ∧ (putL r line).2 = 2) ∨
    ((numsR line (ByteArray.mk #[119, 105, 116, 104]) 2).2 = true ∧ (putL r line).2 = 3) ∨ ((numsR line (ByteArray.mk #[116, 121, 112, 101]) 7).2 = true ∧ (putL r line).2 = 4) ∨ ((numsR line (ByteArray.mk #[109, 97, 115, 116, 101, 114]) 1).2 = true ∧ (putL r line).2 = 5) ∨ ((numsR line (ByteArray.mk #[105, 116, 101, 109]) 7).2 = true ∧ (putL r line).2 = 6) ∨ (putL r line).2 = -1 := by
  by_cases h1 : line = (ByteArray.mk #[119, 97, 121, 32, 102, 105, 114, 115, 116])
  · exact .inl ⟨.inl h1, by rw [h1, putL_wayF]⟩
  by_cases h2 : line = (ByteArray.mk #[119, 97, 121, 32, 110, 101, 120, 116])
  · exact .inl ⟨.inr h2, by rw [h2, putL_wayN]⟩
  by_cases h3 : (numsR line (ByteArray.mk #[112, 97, 108, 108, 101, 116]) 4).2 = true
  · exact .inr (.inl ⟨h3, by rw [putL_1 h3]⟩)
  by_cases h4 : (numsR line (ByteArray.mk #[99, 108, 97, 115, 115, 101, 115]) 1).2 = true
  · exact .inr (.inr (.inl ⟨h4, by rw [putL_2 h4]⟩))
  by_cases h5 : (numsR line (ByteArray.mk #[119, 105, 116, 104]) 2).2 = true
  · exact .inr (.inr (.inr (.inl ⟨h5, by rw [putL_3 h5]⟩)))
  by_cases h6 : (numsR line (ByteArray.mk #[116, 121, 112, 101]) 7).2 = true
  · exact .inr (.inr (.inr (.inr (.inl ⟨h6, by rw [putL_4 h6]⟩))))
  by_cases h7 : (numsR line (ByteArray.mk #[109, 97, 115, 116, 101, 114]) 1).2 = true
  · exact .inr (.inr (.inr (.inr (.inr (.inl ⟨h7, by rw [putL_5 h7]⟩)))))
  by_cases h8 : (numsR line (ByteArray.mk #[105, 116, 101, 109]) 7).2 = true
  · exact .inr (.inr (.inr (.inr (.inr (.inr (.inl ⟨h8, by rw [putL_6 h8]⟩))))))
  · refine .inr (.inr (.inr (.inr (.inr (.inr (.inr ?_))))))
    unfold putL
    rw [if_neg h1, if_neg h2, if_neg h3, if_neg h4, if_neg h5, if_neg h6, if_neg h7, if_neg h8]
end Go.Proofs.YtcjcmdikopipjaaDoor
