/- The text of an order and what is read from it: the plain laws. No program in sight. -/
import Derived.Test.YtcjcmdikopipjaaDoorRdp
import Derived.Test.YtcjcmdikopipjaaDoorOto
import Derived.Test.YtcjcmdikopipjaaDoorJn
namespace Go.Proofs.YtcjcmdikopipjaaDoor
open Go.ChangeShapes Go.WideShapes Go.ChangeAt Go.RowKit Go.Deep
set_option linter.unusedVariables false
set_option linter.unusedSimpArgs false

/-- A list of bytes in parts. -/
def spL (d : UInt8) : List UInt8 → List (List UInt8)
  | [] => [[]]
  | c :: r => if c = d then [] :: spL d r else match spL d r with | [] => [[c]] | p :: ps => (c :: p) :: ps
theorem spL_cons (d c : UInt8) (r : List UInt8) : spL d (c :: r) = if c = d then [] :: spL d r else match spL d r with | [] => [[c]] | p :: ps => (c :: p) :: ps := rfl
theorem spL_ne (d : UInt8) : ∀ l, spL d l ≠ []
  | [] => by simp [spL]
  | c :: r => by
    unfold spL
    split
    · simp
    · split <;> simp
theorem spL_app (d : UInt8) (m : List UInt8) : ∀ l, spL d (l ++ d :: m) = spL d l ++ spL d m
  | [] => by
    show spL d (d :: m) = [[]] ++ spL d m
    rw [spL_cons, if_pos rfl]
    rfl
  | c :: r => by
    show spL d (c :: (r ++ d :: m)) = spL d (c :: r) ++ spL d m
    rw [spL_cons d c (r ++ d :: m), spL_cons d c r, spL_app d m r]
    by_cases h : c = d
    · rw [if_pos h, if_pos h]
      rfl
    · rw [if_neg h, if_neg h]
      have hne := spL_ne d r
      cases hq : spL d r with
      | nil => exact absurd hq hne
      | cons p ps => rfl
theorem spL_none (d : UInt8) : ∀ l, d ∉ l → spL d l = [l]
  | [], _ => rfl
  | c :: r, h => by
    unfold spL
    rw [if_neg (fun e => h (by rw [e]; exact List.mem_cons_self ..)), spL_none d r (fun hm => h (List.mem_cons_of_mem _ hm))]
theorem spL_more (d : UInt8) (m : List UInt8) (hm : d ∉ m) : ∀ (l : List UInt8) (init : List (List UInt8)) (last : List UInt8), spL d l = init ++ [last] → spL d (l ++ m) = init ++ [last ++ m]
  | [], init, last, h => by
    have h' : [([] : List UInt8)] = init ++ [last] := h
    have hi : init = [] := by
      have h2 := congrArg List.length h'
      rw [List.length_append, List.length_singleton, List.length_singleton] at h2
      exact List.eq_nil_of_length_eq_zero (by omega)
    subst hi
    have hl : last = [] := by simpa using h'.symm
    subst hl
    simpa using spL_none d m hm
  | c :: r, init, last, h => by
    show spL d (c :: (r ++ m)) = _
    unfold spL at h ⊢
    have hne := spL_ne d r
    by_cases hc : c = d
    · rw [if_pos hc] at h ⊢
      cases init with
      | nil =>
        have : spL d r = [] := by simpa using (List.cons.inj h).2
        exact absurd this hne
      | cons p ps =>
        obtain ⟨h1, h2⟩ := List.cons.inj h
        rw [spL_more d m hm r ps last h2, ← h1]
        rfl
    · rw [if_neg hc] at h ⊢
      cases hq : spL d r with
      | nil => exact absurd hq hne
      | cons p ps =>
        rw [hq] at h
        cases init with
        | nil =>
          obtain ⟨h1, h2⟩ := List.cons.inj h
          have h3 : spL d r = [] ++ [p] := by rw [hq, h2]; rfl
          rw [spL_more d m hm r [] p h3, ← h1]
          rfl
        | cons q qs =>
          obtain ⟨h1, h2⟩ := List.cons.inj h
          have h3 : spL d r = (p :: qs) ++ [last] := by rw [hq, h2]; rfl
          rw [spL_more d m hm r (p :: qs) last h3, ← h1]
          rfl
theorem pt_split (s : ByteArray) (b : Int) (d : UInt8) (hd : (d.toNat : Int) = b) : ∀ k, k ≤ s.size →
    spL d ((tl s).take k) = (ptS s b k).1.map tl ++ [((tl s).take k).drop (ptS s b k).2]
  | 0, _ => by simp [ptS, spL]
  | k + 1, hk => by
    have ih := pt_split s b d hd k (by omega)
    have hle := ptS_le s b k
    have hl : k < (tl s).length := by
      show k < s.data.toList.length
      have : s.data.toList.length = s.size := Array.length_toList
      omega
    have ht : (tl s).take (k + 1) = (tl s).take k ++ [(tl s)[k]] := List.take_succ_eq_append_getElem hl
    have hbn : byteN s k = ((tl s)[k].toNat : Int) := by
      unfold byteN
      change ((((tl s).getD k 0).toNat : Nat) : Int) = _
      rw [List.getD_eq_getElem?_getD, List.getElem?_eq_getElem hl]
      rfl
    by_cases hb : byteN s k = b
    · have e1 : (tl s)[k] = d := by
        rw [hbn] at hb
        have : (tl s)[k].toNat = d.toNat := by omega
        exact UInt8.toNat_inj.1 this
      rw [ptS_yes hb, ht, e1, spL_app, ih]
      simp [tl_ext, spL]
      omega
    · rw [ptS_no hb, ht]
      have hne : d ∉ [(tl s)[k]] := by
        rw [List.mem_singleton]
        intro e
        apply hb
        rw [hbn, ← e, hd]
      rw [spL_more d _ hne _ _ _ ih, List.drop_append_of_le_length (by rw [List.length_take]; omega)]
theorem parts_split (s : ByteArray) (b : Int) (d : UInt8) (hd : (d.toNat : Int) = b) : (partsL s b).map tl = spL d (tl s) := by
  have h := pt_split s b d hd s.size (Nat.le_refl _)
  have hall : (tl s).take s.size = tl s := List.take_of_length_le (by
    show s.data.toList.length ≤ s.size
    exact Nat.le_of_eq Array.length_toList)
  rw [hall] at h
  rw [h]
  unfold partsL
  rw [List.map_append, List.map_cons, List.map_nil, tl_ext, hall]
theorem map_tl_inj : ∀ {xs ys : List ByteArray}, xs.map tl = ys.map tl → xs = ys
  | [], [], _ => rfl
  | [], _ :: _, h => by simp at h
  | _ :: _, [], h => by simp at h
  | x :: xs, y :: ys, h => by
    obtain ⟨h1, h2⟩ := List.cons.inj h
    rw [tl_inj h1, map_tl_inj h2]
theorem tl_mk (l : List UInt8) : tl (ByteArray.mk l.toArray) = l := rfl
theorem dig_no {x : Int} (h : inB x 0 999999 = true) (d : UInt8) (hd : d.toNat < 48) : d ∉ tl (digS x) := by
  obtain ⟨n, rfl⟩ := Int.eq_ofNat_of_zero_le ((inB_iff _ _ _).1 h).1
  intro hm
  have h1 : d ∈ (digS (n : Int)).data.toList := hm
  rw [digS_nat] at h1
  have := dec_dig n d h1
  unfold isDig at this
  omega
theorem lineF_tl (W : ByteArray) (x : Int) : tl (lineF W x) = tl W ++ 32 :: tl (digS x) := by
  unfold lineF
  rw [tl_app, tl_app, List.append_assoc]
  rfl
theorem body_split : ∀ (nums : List Int) (W : ByteArray), numsOk nums = true → spL 32 (tl (nums.foldl lineF W)) = spL 32 (tl W) ++ nums.map fun x => tl (digS x)
  | [], W, _ => by simp
  | x :: xs, W, h => by
    unfold numsOk at h
    rw [List.all_cons, Bool.and_eq_true] at h
    rw [List.foldl_cons, body_split xs (lineF W x) (by unfold numsOk; exact h.2), lineF_tl, spL_app, spL_none 32 (tl (digS x)) (dig_no h.1 32 (by decide)), List.map_cons, List.append_assoc]
    rfl
theorem body_parts {word : ByteArray} {nums : List Int} (hw : (32 : UInt8) ∉ tl word) (h : numsOk nums = true) : partsL (nums.foldl lineF word) 32 = word :: nums.map digS := by
  apply map_tl_inj
  rw [parts_split _ 32 32 rfl, body_split nums word h, spL_none 32 _ hw]
  simp
theorem body_no10 : ∀ (nums : List Int) (W : ByteArray), numsOk nums = true → (10 : UInt8) ∉ tl W → (10 : UInt8) ∉ tl (nums.foldl lineF W)
  | [], W, _, h => h
  | x :: xs, W, h, hw => by
    unfold numsOk at h
    rw [List.all_cons, Bool.and_eq_true] at h
    rw [List.foldl_cons]
    refine body_no10 xs _ (by unfold numsOk; exact h.2) ?_
    rw [lineF_tl, List.mem_append, List.mem_cons]
    rintro (h1 | h1 | h1)
    · exact hw h1
    · exact absurd h1 (by decide)
    · exact dig_no h.1 10 (by decide) h1
theorem numsR_body {word : ByteArray} {nums : List Int} (hw : (32 : UInt8) ∉ tl word) (h : numsOk nums = true) : numsR (nums.foldl lineF word) word nums.length = (nums, true) := by
  have hp := body_parts hw h
  unfold numsR
  rw [hp]
  have hn : ∀ x ∈ nums, numOk (digS x) = true ∧ (valS (digS x) : Int) = x := fun x hx => by
    unfold numsOk at h
    have h2 := (inB_iff _ _ _).1 (List.all_eq_true.1 h x hx)
    obtain ⟨n, rfl⟩ := Int.eq_ofNat_of_zero_le h2.1
    obtain ⟨h3, h4⟩ := numOk_of (s := digS (n : Int)) rfl (by omega)
    exact ⟨h3, by rw [h4]⟩
  rw [if_pos ⟨rfl, by simp, by
    rw [List.drop_succ_cons, List.drop_zero, List.all_eq_true]
    intro y hy
    obtain ⟨x, hx, rfl⟩ := List.mem_map.1 hy
    exact (hn x hx).1⟩]
  rw [List.drop_succ_cons, List.drop_zero, List.map_map]
  congr 1
  conv => rhs; rw [← List.map_id nums]
  exact List.map_congr_left fun x hx => (hn x hx).2
theorem numsR_line {l word : ByteArray} {cnt : Nat} (h : (numsR l word cnt).2 = true) : l = (numsR l word cnt).1.foldl lineF word ∧ numsOk (numsR l word cnt).1 = true ∧ (numsR l word cnt).1.length = cnt := by
  refine ⟨?_, ?_, numsR_len h⟩
  · have hj := parts_join l 32 32 rfl
    unfold numsR at h ⊢
    split at h
    · rename_i hh
      rw [if_pos hh]
      obtain ⟨h1, _, h3⟩ := hh
      generalize partsL l 32 = P at hj h1 h3
      cases P with
      | nil => cases h1
      | cons p ps =>
        have hp : p = word := by simpa using h1
        subst hp
        rw [List.drop_succ_cons, List.drop_zero] at h3 ⊢
        rw [← hj]
        show ps.foldl _ p = _
        rw [List.foldl_map]
        clear hj h1 h
        induction ps generalizing p with
        | nil => rfl
        | cons q qs ih =>
          rw [List.all_cons, Bool.and_eq_true] at h3
          rw [List.foldl_cons, List.foldl_cons]
          have e : lineF p (valS q : Int) = (p ++ ByteArray.mk #[32]) ++ q := by
            unfold lineF
            rw [(numOk_iff.1 h3.1).1]
          rw [e]
          exact ih _ h3.2
    · cases h
  · unfold numsR at h ⊢
    split at h
    · rename_i hh
      rw [if_pos hh]
      unfold numsOk
      rw [List.all_eq_true]
      intro y hy
      obtain ⟨x, hx, rfl⟩ := List.mem_map.1 hy
      have := (numOk_iff.1 (List.all_eq_true.1 hh.2.2 x hx)).2
      rw [inB_iff]
      omega
    · cases h
/-- A row without its line's end. -/
def rowB (x : ORow) : ByteArray := x.2.foldl lineF x.1
theorem rowT_ok {x : ORow} (h : rowOk x = true) : rowT x = rowB x ++ ByteArray.mk #[10] := by
  unfold rowT lineR
  unfold rowOk at h
  rw [if_pos h]
  rfl
theorem rowsT_snoc (w0 : ByteArray) (rows : List ORow) (x : ORow) : rowsT w0 (rows ++ [x]) = rowsT w0 rows ++ rowT x := by
  unfold rowsT
  rw [List.foldl_append]
  rfl
theorem rows_split : ∀ (rows : List ORow) (A : ByteArray) (init : List (List UInt8)), (∀ x ∈ rows, rowOk x = true ∧ (10 : UInt8) ∉ tl x.1) → spL 10 (tl A) = init ++ [[]] →
    spL 10 (tl (rowsT A rows)) = init ++ rows.map (fun x => tl (rowB x)) ++ [[]]
  | [], A, init, _, h => by simpa [rowsT] using h
  | x :: xs, A, init, hr, h => by
    obtain ⟨h1, h2⟩ := hr x (List.mem_cons_self ..)
    have h3 := body_no10 x.2 x.1 h1 h2
    have e : rowsT A (x :: xs) = rowsT (A ++ rowT x) xs := rfl
    have h4 := spL_more 10 (tl (rowB x)) h3 (tl A) init [] h
    rw [List.nil_append] at h4
    have h5 : spL 10 (tl (A ++ rowT x)) = (init ++ [tl (rowB x)]) ++ [[]] := by
      rw [rowT_ok h1, tl_app, tl_app]
      show spL 10 (tl A ++ (tl (rowB x) ++ 10 :: [])) = _
      rw [← List.append_assoc, spL_app, h4]
      rfl
    rw [e, rows_split xs _ _ (fun y hy => hr y (List.mem_cons_of_mem _ hy)) h5]
    simp
def wayB (way : Int) : ByteArray := if way = 0 then (ByteArray.mk #[119, 97, 121, 32, 102, 105, 114, 115, 116]) else (ByteArray.mk #[119, 97, 121, 32, 110, 101, 120, 116])
theorem wayS_eq (way : Int) : wayS way = wayB way ++ ByteArray.mk #[10] := by
  unfold wayS wayB
  split <;> rfl
theorem wayB_no (way : Int) : (10 : UInt8) ∉ tl (wayB way) := by
  unfold wayB
  split <;> decide
theorem order_words (r : Rq) : ∀ x ∈ orderRows r, (10 : UInt8) ∉ tl x.1 ∧ (32 : UInt8) ∉ tl x.1 ∧ x.1.size ≤ 16 ∧ x.2.length ≤ 16 := by
  intro x hx
  unfold orderRows headRows at hx
  simp only [List.mem_append, List.mem_cons, List.not_mem_nil, or_false, List.mem_map] at hx
  rcases hx with (((((rfl | rfl) | ⟨p, _, rfl⟩) | ⟨t, _, rfl⟩) | rfl) | ⟨i, _, rfl⟩)
  · obtain ⟨a, b, c⟩ : (10 : UInt8) ∉ tl (ByteArray.mk #[112, 97, 108, 108, 101, 116]) ∧ (32 : UInt8) ∉ tl (ByteArray.mk #[112, 97, 108, 108, 101, 116]) ∧ ((ByteArray.mk #[112, 97, 108, 108, 101, 116])).size ≤ 16 := by decide
    exact ⟨a, b, c, by simp⟩
  · obtain ⟨a, b, c⟩ : (10 : UInt8) ∉ tl (ByteArray.mk #[99, 108, 97, 115, 115, 101, 115]) ∧ (32 : UInt8) ∉ tl (ByteArray.mk #[99, 108, 97, 115, 115, 101, 115]) ∧ ((ByteArray.mk #[99, 108, 97, 115, 115, 101, 115])).size ≤ 16 := by decide
    exact ⟨a, b, c, by simp⟩
  · obtain ⟨a, b, c⟩ : (10 : UInt8) ∉ tl (ByteArray.mk #[119, 105, 116, 104]) ∧ (32 : UInt8) ∉ tl (ByteArray.mk #[119, 105, 116, 104]) ∧ ((ByteArray.mk #[119, 105, 116, 104])).size ≤ 16 := by decide
    exact ⟨a, b, c, by simp [prRow]⟩
  · obtain ⟨a, b, c⟩ : (10 : UInt8) ∉ tl (ByteArray.mk #[116, 121, 112, 101]) ∧ (32 : UInt8) ∉ tl (ByteArray.mk #[116, 121, 112, 101]) ∧ ((ByteArray.mk #[116, 121, 112, 101])).size ≤ 16 := by decide
    exact ⟨a, b, c, by simp [tyRow]⟩
  · obtain ⟨a, b, c⟩ : (10 : UInt8) ∉ tl (ByteArray.mk #[109, 97, 115, 116, 101, 114]) ∧ (32 : UInt8) ∉ tl (ByteArray.mk #[109, 97, 115, 116, 101, 114]) ∧ ((ByteArray.mk #[109, 97, 115, 116, 101, 114])).size ≤ 16 := by decide
    exact ⟨a, b, c, by simp [mRow]⟩
  · obtain ⟨a, b, c⟩ : (10 : UInt8) ∉ tl (ByteArray.mk #[105, 116, 101, 109]) ∧ (32 : UInt8) ∉ tl (ByteArray.mk #[105, 116, 101, 109]) ∧ ((ByteArray.mk #[105, 116, 101, 109])).size ≤ 16 := by decide
    exact ⟨a, b, c, by simp [itRow]⟩
theorem row_put {x : ORow} (h : rowOk x = true) (hw : (32 : UInt8) ∉ tl x.1) : numsR (rowB x) x.1 x.2.length = (x.2, true) := numsR_body hw h
theorem goA_cons {T l : ByteArray} {ls : List ByteArray} {i : Nat} {r : Rq} {last : Int} (h : mayF last (putL r l).2 = true) : goA T (l :: ls) i r last = goA T ls (i + 1) (putL r l).1 (putL r l).2 := by
  show (if _ then _ else _) = _
  rw [if_pos h]
theorem goA_prs (T : ByteArray) (ls : List ByteArray) : ∀ (ps : List Pr) (i : Nat) (r : Rq) (last : Int), (∀ p ∈ ps, rowOk (prRow p) = true) → (last = 2 ∨ last = 3) →
    ∃ last' : Int, (last' = 2 ∨ last' = 3) ∧ goA T (ps.map (fun p => rowB (prRow p)) ++ ls) i r last = goA T ls (i + ps.length) { r with pairs := r.pairs ++ ps } last'
  | [], i, r, last, _, h => ⟨last, h, by simp⟩
  | p :: ps, i, r, last, hp, h => by
    have h1 := row_put (hp p (List.mem_cons_self ..)) (show (32 : UInt8) ∉ tl (ByteArray.mk #[119, 105, 116, 104]) by decide)
    have h2 : putL r (rowB (prRow p)) = ({ r with pairs := r.pairs ++ [p] }, 3) := by
      have h3 := putL_3 (r := r) (line := rowB (prRow p)) (congrArg Prod.snd h1)
      rw [h3]
      have h4 : numsR (rowB (prRow p)) (ByteArray.mk #[119, 105, 116, 104]) 2 = ([p.a, p.b], true) := h1
      rw [h4]
      rfl
    have hm : mayF last (putL r (rowB (prRow p))).2 = true := by
      rw [h2]
      rcases h with rfl | rfl <;> rfl
    obtain ⟨l', hl', he⟩ := goA_prs T ls ps (i + 1) { r with pairs := r.pairs ++ [p] } 3 (fun q hq => hp q (List.mem_cons_of_mem _ hq)) (.inr rfl)
    refine ⟨l', hl', ?_⟩
    rw [List.map_cons, List.cons_append, goA_cons hm, h2, he]
    simp only [List.length_cons, List.append_assoc, List.cons_append, List.nil_append]
    rw [show i + 1 + ps.length = i + (ps.length + 1) by omega]
theorem goA_tys (T : ByteArray) (ls : List ByteArray) : ∀ (ts : List Ty) (i : Nat) (r : Rq) (last : Int), (∀ t ∈ ts, rowOk (tyRow t) = true) → (last = 2 ∨ last = 3 ∨ last = 4) →
    ∃ last' : Int, (last' = 2 ∨ last' = 3 ∨ last' = 4) ∧ goA T (ts.map (fun t => rowB (tyRow t)) ++ ls) i r last = goA T ls (i + ts.length) { r with types := r.types ++ ts } last'
  | [], i, r, last, _, h => ⟨last, h, by simp⟩
  | t :: ts, i, r, last, hp, h => by
    have h1 := row_put (hp t (List.mem_cons_self ..)) (show (32 : UInt8) ∉ tl (ByteArray.mk #[116, 121, 112, 101]) by decide)
    have h2 : putL r (rowB (tyRow t)) = ({ r with types := r.types ++ [t] }, 4) := by
      have h3 := putL_4 (r := r) (line := rowB (tyRow t)) (congrArg Prod.snd h1)
      rw [h3]
      have h4 : numsR (rowB (tyRow t)) (ByteArray.mk #[116, 121, 112, 101]) 7 = ([t.id, t.w, t.h, t.d, t.tare, t.gram, t.cost], true) := h1
      rw [h4]
      rfl
    have hm : mayF last (putL r (rowB (tyRow t))).2 = true := by
      rw [h2]
      rcases h with rfl | rfl | rfl <;> rfl
    obtain ⟨l', hl', he⟩ := goA_tys T ls ts (i + 1) { r with types := r.types ++ [t] } 4 (fun q hq => hp q (List.mem_cons_of_mem _ hq)) (.inr (.inr rfl))
    refine ⟨l', hl', ?_⟩
    rw [List.map_cons, List.cons_append, goA_cons hm, h2, he]
    simp only [List.length_cons, List.append_assoc, List.cons_append, List.nil_append]
    rw [show i + 1 + ts.length = i + (ts.length + 1) by omega]
theorem goA_its (T : ByteArray) (ls : List ByteArray) : ∀ (xs : List It) (i : Nat) (r : Rq) (last : Int), (∀ x ∈ xs, rowOk (itRow x) = true) → (last = 5 ∨ last = 6) →
    ∃ last' : Int, (last' = 5 ∨ last' = 6) ∧ goA T (xs.map (fun x => rowB (itRow x)) ++ ls) i r last = goA T ls (i + xs.length) { r with items := r.items ++ xs } last'
  | [], i, r, last, _, h => ⟨last, h, by simp⟩
  | x :: xs, i, r, last, hp, h => by
    have h1 := row_put (hp x (List.mem_cons_self ..)) (show (32 : UInt8) ∉ tl (ByteArray.mk #[105, 116, 101, 109]) by decide)
    have h2 : putL r (rowB (itRow x)) = ({ r with items := r.items ++ [x] }, 6) := by
      have h3 := putL_6 (r := r) (line := rowB (itRow x)) (congrArg Prod.snd h1)
      rw [h3]
      have h4 : numsR (rowB (itRow x)) (ByteArray.mk #[105, 116, 101, 109]) 7 = ([x.id, x.w, x.h, x.d, x.gram, x.cls, x.cnt], true) := h1
      rw [h4]
      rfl
    have hm : mayF last (putL r (rowB (itRow x))).2 = true := by
      rw [h2]
      rcases h with rfl | rfl <;> rfl
    obtain ⟨l', hl', he⟩ := goA_its T ls xs (i + 1) { r with items := r.items ++ [x] } 6 (fun q hq => hp q (List.mem_cons_of_mem _ hq)) (.inr rfl)
    refine ⟨l', hl', ?_⟩
    rw [List.map_cons, List.cons_append, goA_cons hm, h2, he]
    simp only [List.length_cons, List.append_assoc, List.cons_append, List.nil_append]
    rw [show i + 1 + xs.length = i + (xs.length + 1) by omega]
/-- The lines of an order's text. -/
theorem ot_lines (r : Rq) (hok : (orderRows r).all rowOk = true) (hw : inB r.way 0 1 = true) : partsL (otS r) 10 = (wayB r.way :: (orderRows r).map rowB) ++ [(ByteArray.mk #[])] := by
  apply map_tl_inj
  rw [parts_split _ 10 10 rfl]
  unfold otS
  rw [if_pos hw, if_pos hok]
  have h0 : spL 10 (tl (wayS r.way)) = [tl (wayB r.way)] ++ [[]] := by
    rw [wayS_eq, tl_app]
    show spL 10 (tl (wayB r.way) ++ 10 :: []) = _
    rw [spL_app, spL_none 10 _ (wayB_no _)]
    rfl
  rw [rows_split _ _ _ (fun x hx => ⟨List.all_eq_true.1 hok x hx, (order_words r x hx).1⟩) h0]
  simp
  rfl
theorem goA_final {T : ByteArray} {i : Nat} {r : Rq} {last : Int} (h : ¬ last < 5) (hT : T = (ByteArray.mk #[])) : goA T [] i r last = (r, -1) := by
  show (if _ then _ else _) = _
  rw [if_neg (by rw [hT]; simp; omega)]
set_option maxHeartbeats 1000000 in
/-- What is read from an order's text is the order. -/
theorem read_ot (r : Rq) (hok : (orderRows r).all rowOk = true) (hw : inB r.way 0 1 = true) (hn : r.pairs.length + r.types.length + r.items.length ≤ 56) : readS (otS r) = (r, -1) := by
  have hl := ot_lines r hok hw
  have hlen : (orderRows r).length = 3 + r.pairs.length + r.types.length + r.items.length := by
    unfold orderRows headRows
    simp
    omega
  unfold readS readL
  have hP : (partsL (otS r) 10).length = (orderRows r).length + 2 := by rw [hl]; simp
  rw [if_neg (by omega)]
  have hT : lnT (partsL (otS r) 10) = (ByteArray.mk #[]) := by
    refine lnT_at (n := (orderRows r).length + 1) (by omega) ?_
    rw [hl, List.getElem?_append_right (by simp)]
    simp
  have hL : lnL (partsL (otS r) 10) = wayB r.way :: (orderRows r).map rowB := by
    unfold lnL
    rw [hP, hl]
    exact List.take_left' (by simp)
  rw [hT, hL]
  have hall := fun x hx => List.all_eq_true.1 hok x hx
  have hway : putL rq0 (wayB r.way) = ({ rq0 with way := r.way }, 0) := by
    have h2 := (inB_iff _ _ _).1 hw
    unfold wayB
    by_cases h0 : r.way = 0
    · rw [if_pos h0, putL_wayF, h0]
    · rw [if_neg h0, putL_wayN, show r.way = 1 by omega]
  rw [goA_cons (by rw [hway]; rfl), hway]
  have hex : ∀ x, x ∈ orderRows r → rowOk x = true := hall
  unfold orderRows headRows at hex ⊢
  simp only [List.mem_append, List.mem_cons, List.not_mem_nil, or_false, List.mem_map] at hex
  have hpal := hex ((ByteArray.mk #[112, 97, 108, 108, 101, 116]), [r.pal.w, r.pal.d, r.pal.h, r.pal.gram]) (.inl (.inl (.inl (.inl (.inl rfl)))))
  have hcls := hex ((ByteArray.mk #[99, 108, 97, 115, 115, 101, 115]), [r.cls]) (.inl (.inl (.inl (.inl (.inr rfl)))))
  have hmas := hex (mRow r.master) (.inl (.inr rfl))
  simp only [List.map_append, List.map_cons, List.map_nil, List.map_map, List.cons_append, List.nil_append, List.append_assoc]
  have h1 := row_put hpal (show (32 : UInt8) ∉ tl (ByteArray.mk #[112, 97, 108, 108, 101, 116]) by decide)
  have k1 : ∀ q : Rq, putL q (rowB ((ByteArray.mk #[112, 97, 108, 108, 101, 116]), [r.pal.w, r.pal.d, r.pal.h, r.pal.gram])) = ({ q with pal := r.pal }, 1) := fun q => by
    have h3 := putL_1 (r := q) (line := rowB ((ByteArray.mk #[112, 97, 108, 108, 101, 116]), [r.pal.w, r.pal.d, r.pal.h, r.pal.gram])) (congrArg Prod.snd h1)
    rw [h3]
    have h4 : numsR (rowB ((ByteArray.mk #[112, 97, 108, 108, 101, 116]), [r.pal.w, r.pal.d, r.pal.h, r.pal.gram])) (ByteArray.mk #[112, 97, 108, 108, 101, 116]) 4 = ([r.pal.w, r.pal.d, r.pal.h, r.pal.gram], true) := h1
    rw [h4]
    rfl
  rw [goA_cons (by rw [k1]; rfl), k1]
  have h2 := row_put hcls (show (32 : UInt8) ∉ tl (ByteArray.mk #[99, 108, 97, 115, 115, 101, 115]) by decide)
  have k2 : ∀ q : Rq, putL q (rowB ((ByteArray.mk #[99, 108, 97, 115, 115, 101, 115]), [r.cls])) = ({ q with cls := r.cls }, 2) := fun q => by
    have h3 := putL_2 (r := q) (line := rowB ((ByteArray.mk #[99, 108, 97, 115, 115, 101, 115]), [r.cls])) (congrArg Prod.snd h2)
    rw [h3]
    have h4 : numsR (rowB ((ByteArray.mk #[99, 108, 97, 115, 115, 101, 115]), [r.cls])) (ByteArray.mk #[99, 108, 97, 115, 115, 101, 115]) 1 = ([r.cls], true) := h2
    rw [h4]
    rfl
  rw [goA_cons (by rw [k2]; rfl), k2]
  have h5 := row_put hmas (show (32 : UInt8) ∉ tl (ByteArray.mk #[109, 97, 115, 116, 101, 114]) by decide)
  have k5 : ∀ q : Rq, putL q (rowB (mRow r.master)) = ({ q with master := r.master }, 5) := fun q => by
    have h3 := putL_5 (r := q) (line := rowB (mRow r.master)) (congrArg Prod.snd h5)
    rw [h3]
    have h4 : numsR (rowB (mRow r.master)) (ByteArray.mk #[109, 97, 115, 116, 101, 114]) 1 = ([r.master], true) := h5
    rw [h4]
    rfl
  obtain ⟨l1, hl1, e1⟩ := goA_prs (ByteArray.mk #[]) (r.types.map (fun t => rowB (tyRow t)) ++ rowB (mRow r.master) :: r.items.map (fun x => rowB (itRow x))) r.pairs (0 + 1 + 1 + 1) { { { rq0 with way := r.way } with pal := r.pal } with cls := r.cls } 2 (fun p hp => hex _ (.inl (.inl (.inl (.inr ⟨p, hp, rfl⟩))))) (.inl rfl)
  refine Eq.trans e1 ?_
  obtain ⟨l2, hl2, e2⟩ := goA_tys (ByteArray.mk #[]) (rowB (mRow r.master) :: r.items.map (fun x => rowB (itRow x))) r.types (0 + 1 + 1 + 1 + r.pairs.length) { { { { rq0 with way := r.way } with pal := r.pal } with cls := r.cls } with pairs := [] ++ r.pairs } l1 (fun t ht => hex _ (.inl (.inl (.inr ⟨t, ht, rfl⟩)))) (by omega)
  refine Eq.trans e2 ?_
  rw [goA_cons (by rw [k5]; rcases hl2 with rfl | rfl | rfl <;> rfl), k5]
  obtain ⟨l3, hl3, e3⟩ := goA_its (ByteArray.mk #[]) [] r.items (0 + 1 + 1 + 1 + r.pairs.length + r.types.length + 1) { { { { { { rq0 with way := r.way } with pal := r.pal } with cls := r.cls } with pairs := [] ++ r.pairs } with types := [] ++ r.types } with master := r.master } 5 (fun x hx => hex _ (.inr ⟨x, hx, rfl⟩)) (.inl rfl)
  rw [List.append_nil] at e3
  refine Eq.trans e3 ?_
  rw [goA_final (by omega) rfl]
  rfl
end Go.Proofs.YtcjcmdikopipjaaDoor
