/- OrderText of the reference: its rows, and their text. -/
import Derived.Test.YtcjcmdikopipjaaDoorRdq
namespace Go.Proofs.YtcjcmdikopipjaaDoor
open Go.ChangeShapes Go.WideShapes Go.ChangeAt Go.RowKit Go.Deep Go.Joins
set_option linter.unusedVariables false
set_option linter.unusedSimpArgs false

/-- A row of numbers in a block of its own. -/
structure NRow where
  g : Nat
  xs : List Int
def encN (x : NRow) : List Value := [.slice (some ⟨x.g, 0, none⟩) x.xs.length x.xs.length]
theorem encN_len (x : NRow) : (encN x).length = 1 := rfl
theorem encN_one (x : NRow) : ∀ u ∈ encN x, u.oneCell' = true := by
  intro u hu
  unfold encN at hu
  rw [List.mem_singleton] at hu
  subst hu
  rfl
def zN : Value := .slice none 0 0
theorem nsInfo : (Tryd.prog.info? 52).map (fun i => (i.zero, i.size, i.bytes)) = some (some zN, 1, 24) := by kernel_rfl
theorem app1n {w : World} {base : Nat} {v : Value} {xs : List NRow} (ho : Own 1 encN 52 w base v xs) (hb : base ≤ w.heap.size) (hn : xs.length ≤ 4194304) (x : NRow) (n g0 g : Nat) (hx : x.xs.length = n) (hg0 : x.g = g0) (hg : g = w.heap.size) :
    AppOk Tryd.prog 1 encN (w.alloc (.cells #[.slice (some ⟨g0, 0, none⟩) n n] 52)) base 70 52 v xs (some ⟨g, 0, none⟩) 1 1 [x] := by
  subst hx hg0 hg
  exact { hk := encN_len
          h1 := encN_one
          ht := Tryd.underlying70
          info := ⟨zN, 24, nsInfo, rfl, by omega⟩
          pos := by omega
          own := ho.alloc _
          src := ⟨_, _, slk_new encN_len w [x] 1 _ _ rfl (by simp [maxLen]) rfl⟩
          h63 := by unfold maxLen; omega
          hb := by simp; omega }
theorem app1sg {w : World} {base : Nat} {v : Value} {xs : List ByteArray} (ho : Own 1 encStr 9 w base v xs) (hb : base ≤ w.heap.size) (hn : xs.length ≤ 4194304) (x : ByteArray) (g : Nat) (hg : g = w.heap.size) :
    AppOk Tryd.prog 1 encStr (w.alloc (.cells #[.string x] 9)) base 50 9 v xs (some ⟨g, 0, none⟩) 1 1 [x] := by
  subst hg
  exact app1s ho hb hn x
/-- The words and the rows of numbers that have been laid. -/
structure NuAt (w : World) (base : Nat) (vw vn : Value) (ws : List ByteArray) (rs : List NRow) : Prop where
  words : Own 1 encStr 9 w base vw ws
  nums : Own 1 encN 52 w base vn rs
  inn : ∀ x ∈ rs, Blk w x.g 3 (x.xs.map (Value.int .i64)).toArray ∧ base ≤ x.g ∧ vw.ownBlock ≠ some x.g ∧ vn.ownBlock ≠ some x.g
  sep : ∀ z, vw.ownBlock = some z → vn.ownBlock ≠ some z
theorem blk_own {α : Type} {k : Nat} {enc : α → List Value} {w w' : World} {e : TypeId} {base : Nat} {v : Value} {xs : List α} {row : Option Nat} (h : Own k enc e w base v xs) (hg : w.grownBy w' row) (hne : ∀ z, v.ownBlock = some z → row ≠ some z) : Own k enc e w' base v xs := by
  refine h.grown hg ?_
  cases hq : v.ownBlock with
  | none => exact .inl rfl
  | some z => exact .inr fun e => hne z hq e.symm
section
variable {w w' : World} {base : Nat} {vw vn v' : Value} {ws ws' : List ByteArray} {rs : List NRow}
theorem NuAt.alloc (h : NuAt w base vw vn ws rs) (o : Obj) : NuAt (w.alloc o) base vw vn ws rs := ⟨h.words.alloc o, h.nums.alloc o, fun x hx => ⟨(h.inn x hx).1.alloc o, (h.inn x hx).2⟩, h.sep⟩
theorem NuAt.drew (h : NuAt w base vw vn ws rs) : NuAt w.drew base vw vn ws rs := ⟨h.words, h.nums, h.inn, h.sep⟩
theorem NuAt.below (h : NuAt w base vw vn ws rs) (hb : Below w.heap.size w w') : NuAt w' base vw vn ws rs := ⟨h.words.below hb, h.nums.below hb, fun x hx => ⟨(h.inn x hx).1.belowH hb, (h.inn x hx).2⟩, h.sep⟩
theorem NuAt.growW (h : NuAt w base vw vn ws rs) (ho : Own 1 encStr 9 w' base v' ws') (hg : w.grownBy w' vw.ownBlock) (hv : v'.ownBlock = vw.ownBlock ∨ v'.ownBlock = some w.heap.size) : NuAt w' base v' vn ws' rs := by
  refine ⟨ho, blk_own h.nums hg (fun z hz e => h.sep z e hz), fun x hx => ?_, fun z hz e => ?_⟩
  · obtain ⟨h1, h2, h3, h4⟩ := h.inn x hx
    refine ⟨h1.grown hg (fun e => h3 e.symm), h2, fun e => ?_, h4⟩
    rcases hv with hv | hv
    · exact h3 (hv ▸ e)
    · have := h1.lt
      rw [hv] at e
      have := Option.some.inj e
      omega
  · rcases hv with hv | hv
    · exact h.sep z (hv ▸ hz) e
    · rw [hv] at hz
      have := Option.some.inj hz
      have := (h.nums.lt z e).2
      omega
theorem NuAt.growN (h : NuAt w base vw vn ws rs) {x : NRow} (hx : Blk w x.g 3 (x.xs.map (Value.int .i64)).toArray ∧ base ≤ x.g ∧ vw.ownBlock ≠ some x.g ∧ vn.ownBlock ≠ some x.g) (ho : Own 1 encN 52 w' base v' (rs ++ [x])) (hg : w.grownBy w' vn.ownBlock) (hv : v'.ownBlock = vn.ownBlock ∨ v'.ownBlock = some w.heap.size) : NuAt w' base vw v' ws (rs ++ [x]) := by
  refine ⟨blk_own h.words hg (fun z hz e => h.sep z hz e), ho, fun y hy => ?_, fun z hz e => ?_⟩
  · have hy' : Blk w y.g 3 (y.xs.map (Value.int .i64)).toArray ∧ base ≤ y.g ∧ vw.ownBlock ≠ some y.g ∧ vn.ownBlock ≠ some y.g := by
      rw [List.mem_append, List.mem_singleton] at hy
      rcases hy with hy | rfl
      · exact h.inn y hy
      · exact hx
    obtain ⟨h1, h2, h3, h4⟩ := hy'
    refine ⟨h1.grown hg (fun e => h4 e.symm), h2, h3, fun e => ?_⟩
    rcases hv with hv | hv
    · exact h4 (hv ▸ e)
    · have := h1.lt
      rw [hv] at e
      have := Option.some.inj e
      omega
  · rcases hv with hv | hv
    · exact h.sep z hz (hv ▸ e)
    · rw [hv] at e
      have := Option.some.inj e
      have := (h.words.lt z hz).2
      omega
/-- A new row's block is none of those that grow. -/
theorem NuAt.fresh (h : NuAt w base vw vn ws rs) (hb : base ≤ w.heap.size) {g : Nat} (hg : g = w.heap.size) (xs : List Int) (cs : Array Value) (hcs : cs = (xs.map (Value.int .i64)).toArray) (o : Obj) : Blk ((w.alloc (.cells cs 3)).alloc o) g 3 (xs.map (Value.int .i64)).toArray ∧ base ≤ g ∧ vw.ownBlock ≠ some g ∧ vn.ownBlock ≠ some g := by
  subst hg hcs
  refine ⟨(Blk.new w 3 _ rfl).alloc o, hb, fun e => ?_, fun e => ?_⟩
  · have := (h.words.lt _ e).2; omega
  · have := (h.nums.lt _ e).2; omega
end
/-- What l4Rows keeps: its order's box, the words and the rows so far. -/
structure L4St (w0 w : World) (RL : Array Value) (vw vn : Value) (ws : List ByteArray) (rs : List NRow) : Prop where
  nu : NuAt w (w0.heap.size + 1) vw vn ws rs
  rq : Blk w w0.heap.size 41 RL
  below : Below w0.heap.size w0 w
section
variable {w0 w w' : World} {RL : Array Value} {vw vn v' : Value} {ws ws' : List ByteArray} {rs : List NRow}
theorem L4St.alloc (h : L4St w0 w RL vw vn ws rs) (o : Obj) : L4St w0 (w.alloc o) RL vw vn ws rs := ⟨h.nu.alloc o, h.rq.alloc o, h.below.alloc h.below.size o⟩
theorem L4St.drew (h : L4St w0 w RL vw vn ws rs) : L4St w0 w.drew RL vw vn ws rs := ⟨h.nu.drew, h.rq.drew, h.below.drew⟩
theorem L4St.lt (h : L4St w0 w RL vw vn ws rs) : w0.heap.size + 1 ≤ w.heap.size := h.rq.lt
theorem L4St.pushW (h : L4St w0 w RL vw vn ws rs) (o : Obj) (ho : Own 1 encStr 9 w' (w0.heap.size + 1) v' ws') (hg : (w.alloc o).grownBy w' vw.ownBlock) (hv : v'.ownBlock = vw.ownBlock ∨ v'.ownBlock = some (w.alloc o).heap.size) : L4St w0 w' RL v' vn ws' rs ∧ w.heap.size ≤ w'.heap.size := by
  have hl := h.lt
  have hz := hg.size
  rw [World.size_alloc] at hz
  refine ⟨⟨(h.nu.alloc o).growW ho hg hv, (h.rq.alloc o).grown hg (fun e => ?_), (h.below.alloc h.below.size o).grown hg (by rw [World.size_alloc]; omega) (fun z hz => ?_)⟩, by omega⟩
  · have := (h.nu.words.lt _ e.symm).1; omega
  · have := (h.nu.words.lt _ hz).1; omega
theorem L4St.pushN (h : L4St w0 w RL vw vn ws rs) (xs : List Int) (cs : Array Value) (o : Obj) (hcs : cs = (xs.map (Value.int .i64)).toArray) (ho : Own 1 encN 52 w' (w0.heap.size + 1) v' (rs ++ [⟨w.heap.size, xs⟩])) (hg : ((w.alloc (.cells cs 3)).alloc o).grownBy w' vn.ownBlock) (hv : v'.ownBlock = vn.ownBlock ∨ v'.ownBlock = some ((w.alloc (.cells cs 3)).alloc o).heap.size) : L4St w0 w' RL vw v' ws (rs ++ [⟨w.heap.size, xs⟩]) ∧ w.heap.size ≤ w'.heap.size := by
  have hl := h.lt
  have hz := hg.size
  rw [World.size_alloc, World.size_alloc] at hz
  have h2 := (h.alloc (.cells cs 3)).alloc o
  refine ⟨⟨h2.nu.growN (h.nu.fresh hl rfl xs cs hcs o) ho hg hv, h2.rq.grown hg (fun e => ?_), h2.below.grown hg (by rw [World.size_alloc, World.size_alloc]; omega) (fun z hz => ?_)⟩, by omega⟩
  · have := (h.nu.nums.lt _ e.symm).1; omega
  · have := (h.nu.nums.lt _ hz).1; omega
theorem ownN_lit {w : World} {base : Nat} (hb : base ≤ w.heap.size) (xs : List NRow) (n : Nat) (cs : Array Value) (T : TypeId) {g : Nat} (hg : g = w.heap.size) (hn : xs.length = n) (hm : n ≤ maxLen) (hcs : cs = (xs.flatMap encN).toArray) :
    Own 1 encN T (w.alloc (.cells cs T)) base (.slice (some ⟨g, 0, none⟩) n n) xs := by
  subst hn hcs hg
  have hl : (xs.flatMap encN).length = xs.length := by rw [flat_length encN_len, Nat.mul_one]
  have := World.ownsRow_lit (base := base) (size := 1) (e := T) w (xs.flatMap encN).toArray xs.length hb hm (by simp [hl])
  show World.ownsRow _ base T 1 _ xs.length (xs.flatMap encN)
  simpa using this
theorem ownS_litK {w : World} {base : Nat} (hb : base ≤ w.heap.size) (xs : List ByteArray) (n : Nat) (cs : Array Value) (T : TypeId) {g : Nat} (hg : g = w.heap.size) (hn : xs.length = n) (hm : n ≤ maxLen) (hcs : cs = (xs.map Value.string).toArray) :
    Own 1 encStr T (w.alloc (.cells cs T)) base (.slice (some ⟨g, 0, none⟩) n n) xs := by
  subst hn hcs hg
  have := World.ownsRow_lit (base := base) (size := 1) (e := T) w (xs.map Value.string).toArray xs.length hb hm (by simp)
  show World.ownsRow _ base T 1 _ xs.length (xs.flatMap encStr)
  rw [strs_flat]
  simpa using this
end
theorem slk_of_blk {w : World} {g : Nat} {T : TypeId} {xs : List Int} (h : Blk w g T (xs.map (Value.int .i64)).toArray) (hm : xs.length ≤ maxLen) : SlK 1 encInt w g (g + 1) (some ⟨g, 0, none⟩) xs.length xs.length xs :=
  ⟨rfl, Nat.le_refl _, hm, fun _ => ⟨g, 0, rfl, Nat.le_refl _, Nat.lt_succ_self _, fun i x hx j u hu => by
    have hj : j = 0 ∧ u = .int .i64 x := by
      match j, hu with
      | 0, hu => exact ⟨rfl, (Option.some.inj hu).symm⟩
    obtain ⟨rfl, rfl⟩ := hj
    rw [h.cell, h.frozen]
    refine ⟨?_, rfl⟩
    simp [hx]⟩⟩
set_option maxRecDepth 20000 in
set_option maxHeartbeats 4000000 in
theorem l4Rows_any (r : Rq) (A1 A2 A3 : Option Addr) (n1 n2 n3 c1 c2 c3 : Nat) (lo hi : Nat) (w : World) (hr : RqAt w lo hi r A1 n1 c1 A2 n2 c2 A3 n3 c3) (hB : hi ≤ w.heap.size) (hn : n1 + n2 + n3 ≤ 1048576) :
    Calls Tryd.prog 42 #[.agg #[.int .i64 r.way, .int .i64 r.pal.w, .int .i64 r.pal.d, .int .i64 r.pal.h, .int .i64 r.pal.gram, .int .i64 r.cls, .slice A1 n1 c1, .slice A2 n2 c2, .int .i64 r.master, .slice A3 n3 c3]] w fun e w' => ∃ vw vn rs, e = .returned (.tuple #[vw, vn]) ∧ NuAt w' (w.heap.size + 1) vw vn ((orderRows r).map (·.1)) rs ∧ rs.map (·.xs) = (orderRows r).map (·.2) ∧ Below w.heap.size w w' := by
  have HR := hide hr
  have l1 := hr.pr.len
  have l2 := hr.ty.len
  have l3 := hr.it.len
  have q1 := hr.pr.cap
  have q2 := hr.pr.max
  have q3 := hr.ty.cap
  have q4 := hr.ty.max
  have q5 := hr.it.cap
  have q6 := hr.it.max
  clear hr
  go_enter Tryd.func42, Tryd.ntmps42
  go_wp2_with fail
  have HS0 : Hid (L4St w (((((w.alloc (.cells #[.int .i64 r.way, .int .i64 r.pal.w, .int .i64 r.pal.d, .int .i64 r.pal.h, .int .i64 r.pal.gram, .int .i64 r.cls, .slice A1 n1 c1, .slice A2 n2 c2, .int .i64 r.master, .slice A3 n3 c3] 41)).alloc (.cells #[.string (ByteArray.mk #[112, 97, 108, 108, 101, 116]), .string (ByteArray.mk #[99, 108, 97, 115, 115, 101, 115])] 9)).alloc (.cells #[.int .i64 r.pal.w, .int .i64 r.pal.d, .int .i64 r.pal.h, .int .i64 r.pal.gram] 3)).alloc (.cells #[.int .i64 r.cls] 3)).alloc (.cells #[.slice (some ⟨w.heap.size + 1 + 1, 0, none⟩) 4 4, .slice (some ⟨w.heap.size + 1 + 1 + 1, 0, none⟩) 1 1] 52)) #[.int .i64 r.way, .int .i64 r.pal.w, .int .i64 r.pal.d, .int .i64 r.pal.h, .int .i64 r.pal.gram, .int .i64 r.cls, .slice A1 n1 c1, .slice A2 n2 c2, .int .i64 r.master, .slice A3 n3 c3] (.slice (some ⟨w.heap.size + 1, 0, none⟩) 2 2) (.slice (some ⟨w.heap.size + 1 + 1 + 1 + 1, 0, none⟩) 2 2) ((headRows r).map (·.1)) [⟨w.heap.size + 1 + 1, [r.pal.w, r.pal.d, r.pal.h, r.pal.gram]⟩, ⟨w.heap.size + 1 + 1 + 1, [r.cls]⟩]) := hide
    ⟨⟨(((ownS_litK (by simp) [(ByteArray.mk #[112, 97, 108, 108, 101, 116]), (ByteArray.mk #[99, 108, 97, 115, 115, 101, 115])] 2 _ _ (by simp) rfl (by simp [maxLen]) rfl).alloc _).alloc _).alloc _, ownN_lit (by (try simp) <;> omega) _ 2 _ _ (by simp) rfl (by simp [maxLen]) rfl, fun x hx => by
      rw [List.mem_cons, List.mem_singleton] at hx
      rcases hx with rfl | rfl
      · exact ⟨((Blk.new _ _ _ (by simp)).alloc _).alloc _, by show w.heap.size + 1 ≤ w.heap.size + 1 + 1; omega, fun e => by have e2 : w.heap.size + 1 = w.heap.size + 1 + 1 := Option.some.inj e; omega, fun e => by have e2 : w.heap.size + 1 + 1 + 1 + 1 = w.heap.size + 1 + 1 := Option.some.inj e; omega⟩
      · exact ⟨(Blk.new _ _ _ (by simp)).alloc _, by show w.heap.size + 1 ≤ w.heap.size + 1 + 1 + 1; omega, fun e => by have e2 : w.heap.size + 1 = w.heap.size + 1 + 1 + 1 := Option.some.inj e; omega, fun e => by have e2 : w.heap.size + 1 + 1 + 1 + 1 = w.heap.size + 1 + 1 + 1 := Option.some.inj e; omega⟩,
      fun z hz e => by have e1 : w.heap.size + 1 = z := Option.some.inj hz; have e2 : w.heap.size + 1 + 1 + 1 + 1 = z := Option.some.inj e; omega⟩, ((((Blk.new _ _ _ rfl).alloc _).alloc _).alloc _).alloc _, (by repeat (first | with_reducible exact Below.refl _ _ | with_reducible assumption | with_reducible refine Below.setCell ?_ (by (try simp) <;> omega) _ | with_reducible refine Below.alloc ?_ (by (try simp) <;> omega) _ | with_reducible refine Below.drew ?_ | with_reducible refine below_drewN ?_ _))⟩
  go_loopw [4, 5, 6] (fun vw vn i wr => ∃ (k : Nat) (rs : List NRow), k ≤ n1 ∧ i = .int .i64 k ∧ L4St w wr #[.int .i64 r.way, .int .i64 r.pal.w, .int .i64 r.pal.d, .int .i64 r.pal.h, .int .i64 r.pal.gram, .int .i64 r.cls, .slice A1 n1 c1, .slice A2 n2 c2, .int .i64 r.master, .slice A3 n3 c3] vw vn (((headRows r) ++ (r.pairs.take k).map prRow).map (·.1)) rs ∧ rs.map (·.xs) = ((headRows r) ++ (r.pairs.take k).map prRow).map (·.2)) (fun _ _ i _ => n1 - (intOf i).toNat)
  case atStart => exact ⟨0, [⟨w.heap.size + 1 + 1, [r.pal.w, r.pal.d, r.pal.h, r.pal.gram]⟩, ⟨w.heap.size + 1 + 1 + 1, [r.cls]⟩], Nat.zero_le _, rfl, by simpa using HS0.out, rfl⟩
  case round =>
    obtain ⟨k, rs, hk, rfl, hst, hrs⟩ := hrel
    have HS := hide hst
    have kR := hst.rq.cell
    have yR := hst.rq.lt
    have ht : (r.pairs.take k).length = k := by rw [List.length_take]; omega
    have HRS := hide hrs
    have HRL := hide (show rs.length = ((headRows r) ++ (r.pairs.take k).map prRow).length by have := congrArg List.length hrs; simpa using this)
    have HRN := hide (show ((headRows r) ++ (r.pairs.take k).map prRow).length ≤ 2000000 by simp [headRows, ht]; omega)
    clear hst hrs
    by_cases hlt : k < n1
    · have i0 : (0 : Int) ≤ (k : Int) := by omega
      have i1 : (k : Int) < (n1 : Int) := by omega
      go_wp2_with (at_builtin; refine wpList_app rfl _ _ rfl rfl rfl (app1sg HS.out.nu.words HS.out.lt (by (try simp [headRows]) <;> omega) (ByteArray.mk #[119, 105, 116, 104]) _ (by simp)) ?_; intro vw2 w2 ho2 hg2 hat2; have HS2 := hide (HS.out.pushW _ ho2 hg2 hat2).1; have zz2 := (HS.out.pushW _ ho2 hg2 hat2).2; clear ho2 hg2 hat2 kR yR; have kR := HS2.out.rq.cell; have yR := HS2.out.rq.lt)
      obtain ⟨b0, off, x, hx, rfl, _, hb0, d0, d1, _, _⟩ := (HR.out.pr.below HS2.out.below hB).pr hlt
      have HX := hide hx
      have zb : b0 < w2.heap.size := by have := HS2.out.below.size; omega
      clear hx
      refine wp_region_held_drew (S := (fun w' => w'.cell? ⟨w.heap.size, 6, none⟩ = some (.slice (some ⟨b0, off, none⟩) n1 c1) ∧ w'.cell? ⟨b0, off + k * 2, none⟩ = some (.int .i64 x.a) ∧ w'.cell? ⟨b0, off + k * 2 + 1, none⟩ = some (.int .i64 x.b))) (by kernel_rfl) ?hS0 (fun hHeld => ?_)
      case hS0 => (exact ⟨kR 6, d0, d1⟩)
      refine wpAnyH_take (i := 0) (v := ?_) rfl (by kernel_rfl) (by kernel_rfl) (by kernel_rfl) (fun _ _ _ h => h) (Or.inl ⟨by rfl, ?_⟩) (by assumption) ?_
      rotate_left 1
      · intro w hSw
        try dsimp only at hSw
        go_simp
        try with_reducible rfl
      simp only [Act.put, List.getElem_toArray, List.getElem_cons_succ, List.getElem_cons_zero, List.setIfInBounds_toArray, List.set_cons_zero, List.set_cons_succ]
      refine wpAnyH_take (i := 1) (v := ?_) rfl (by kernel_rfl) (by kernel_rfl) (by kernel_rfl) (fun _ _ _ h => h) (Or.inl ⟨by rfl, ?_⟩) (by assumption) ?_
      rotate_left 1
      · intro w hSw
        try dsimp only at hSw
        go_simp
        try with_reducible rfl
      simp only [Act.put, List.getElem_toArray, List.getElem_cons_succ, List.getElem_cons_zero, List.setIfInBounds_toArray, List.set_cons_zero, List.set_cons_succ]
      refine wpAnyH_take (i := 2) (v := ?_) rfl (by kernel_rfl) (by kernel_rfl) (by kernel_rfl) (fun _ _ _ h => h) (Or.inl ⟨by rfl, ?_⟩) (by assumption) ?_
      rotate_left 1
      · intro w hSw
        try dsimp only at hSw
        go_simp
        try with_reducible rfl
      simp only [Act.put, List.getElem_toArray, List.getElem_cons_succ, List.getElem_cons_zero, List.setIfInBounds_toArray, List.set_cons_zero, List.set_cons_succ]
      refine wpAnyH_take (i := 3) (v := ?_) rfl (by kernel_rfl) (by kernel_rfl) (by kernel_rfl) (fun _ _ _ h => h) (Or.inl ⟨by rfl, ?_⟩) (by assumption) ?_
      rotate_left 1
      · intro w hSw
        try dsimp only at hSw
        go_simp
        try with_reducible rfl
      simp only [Act.put, List.getElem_toArray, List.getElem_cons_succ, List.getElem_cons_zero, List.setIfInBounds_toArray, List.set_cons_zero, List.set_cons_succ]
      refine wpAnyH_take (i := 4) (v := ?_) rfl (by kernel_rfl) (by kernel_rfl) (by kernel_rfl) (fun _ _ _ h => h) (Or.inl ⟨by rfl, ?_⟩) (by assumption) ?_
      rotate_left 1
      · intro w hSw
        try dsimp only at hSw
        go_simp
        try with_reducible rfl
      simp only [Act.put, List.getElem_toArray, List.getElem_cons_succ, List.getElem_cons_zero, List.setIfInBounds_toArray, List.set_cons_zero, List.set_cons_succ]
      refine wpAnyH_take (i := 5) (v := ?_) rfl (by kernel_rfl) (by kernel_rfl) (by kernel_rfl) (fun _ _ _ h => h) (Or.inl ⟨by rfl, ?_⟩) (by assumption) ?_
      rotate_left 1
      · intro w hSw
        try dsimp only at hSw
        go_simp
        try with_reducible rfl
      simp only [Act.put, List.getElem_toArray, List.getElem_cons_succ, List.getElem_cons_zero, List.setIfInBounds_toArray, List.set_cons_zero, List.set_cons_succ]
      refine wpAnyH_take (i := 6) (v := ?_) rfl (by kernel_rfl) (by kernel_rfl) (by kernel_rfl) (fun _ _ _ h => h) (Or.inl ⟨by rfl, ?_⟩) (by assumption) ?_
      rotate_left 1
      · intro w hSw
        try dsimp only at hSw
        go_simp
        try with_reducible rfl
      simp only [Act.put, List.getElem_toArray, List.getElem_cons_succ, List.getElem_cons_zero, List.setIfInBounds_toArray, List.set_cons_zero, List.set_cons_succ]
      refine wpAnyH_take (i := 7) (v := ?_) rfl (by kernel_rfl) (by kernel_rfl) (by kernel_rfl) (fun _ _ _ h => h) (Or.inl ⟨by rfl, ?_⟩) (by assumption) ?_
      rotate_left 1
      · intro w hSw
        try dsimp only at hSw
        go_simp
        try with_reducible rfl
      simp only [Act.put, List.getElem_toArray, List.getElem_cons_succ, List.getElem_cons_zero, List.setIfInBounds_toArray, List.set_cons_zero, List.set_cons_succ]
      refine wpAnyH_take (i := 8) (v := ?_) rfl (by kernel_rfl) (by kernel_rfl) (by kernel_rfl) (fun _ _ _ h => h) (Or.inl ⟨by rfl, ?_⟩) (by assumption) ?_
      rotate_left 1
      · intro w hSw
        try dsimp only at hSw
        go_simp
        try with_reducible rfl
      simp only [Act.put, List.getElem_toArray, List.getElem_cons_succ, List.getElem_cons_zero, List.setIfInBounds_toArray, List.set_cons_zero, List.set_cons_succ]
      refine wpAnyH_take (i := 9) (v := ?_) rfl (by kernel_rfl) (by kernel_rfl) (by kernel_rfl) (fun _ _ _ h => h) (Or.inl ⟨by rfl, ?_⟩) (by assumption) ?_
      rotate_left 1
      · intro w hSw
        try dsimp only at hSw
        go_simp
        try with_reducible rfl
      simp only [Act.put, List.getElem_toArray, List.getElem_cons_succ, List.getElem_cons_zero, List.setIfInBounds_toArray, List.set_cons_zero, List.set_cons_succ]
      refine wpAnyH_take (i := 10) (v := ?_) rfl (by kernel_rfl) (by kernel_rfl) (by kernel_rfl) (fun _ _ _ h => h) (Or.inl ⟨by rfl, ?_⟩) (by assumption) ?_
      rotate_left 1
      · intro w hSw
        try dsimp only at hSw
        go_simp
        try with_reducible rfl
      simp only [Act.put, List.getElem_toArray, List.getElem_cons_succ, List.getElem_cons_zero, List.setIfInBounds_toArray, List.set_cons_zero, List.set_cons_succ]
      refine wpAnyH_take (i := 11) (v := ?_) rfl (by kernel_rfl) (by kernel_rfl) (by kernel_rfl) (fun _ _ _ h => h) (Or.inl ⟨by rfl, ?_⟩) (by assumption) ?_
      rotate_left 1
      · intro w hSw
        try dsimp only at hSw
        go_simp
        try with_reducible rfl
      simp only [Act.put, List.getElem_toArray, List.getElem_cons_succ, List.getElem_cons_zero, List.setIfInBounds_toArray, List.set_cons_zero, List.set_cons_succ]
      refine wpAnyH_take (i := 12) (v := ?_) rfl (by kernel_rfl) (by kernel_rfl) (by kernel_rfl) (fun _ _ _ h => h) (Or.inl ⟨by rfl, ?_⟩) (by assumption) ?_
      rotate_left 1
      · intro w hSw
        try dsimp only at hSw
        go_simp
        try with_reducible rfl
      simp only [Act.put, List.getElem_toArray, List.getElem_cons_succ, List.getElem_cons_zero, List.setIfInBounds_toArray, List.set_cons_zero, List.set_cons_succ]
      refine wpAnyH_ready (rs := [13]) (by kernel_rfl) (by simp) ?_
      refine AllReadyH.cons rfl (fun K hK => ?_) AllReadyH.nil
      go_simp
      refine hK.out _ _ ?hS1 (fun hHeld => ?_)
      case hS1 => (try dsimp only); (go_keep)
      clear hK K
      try simp only [Act.put, List.getElem_toArray, List.getElem_cons_succ, List.getElem_cons_zero, List.setIfInBounds_toArray, List.set_cons_zero, List.set_cons_succ]
      refine wpAnyH_ready (rs := [14]) (by kernel_rfl) (by simp) ?_
      refine AllReadyH.cons rfl (fun K hK => ?_) AllReadyH.nil
      go_simp
      refine hK.out _ _ ?hS1 (fun hHeld => ?_)
      case hS1 => (try dsimp only); (go_keep)
      clear hK K
      try simp only [Act.put, List.getElem_toArray, List.getElem_cons_succ, List.getElem_cons_zero, List.setIfInBounds_toArray, List.set_cons_zero, List.set_cons_succ]
      refine wpAnyH_ready (rs := [15]) (by kernel_rfl) (by simp) ?_
      refine AllReadyH.cons rfl (fun K hK => ?_) AllReadyH.nil
      refine step_app rfl (.tmp 39) (.tmp 53) rfl (by simp [Act.eval]) (by simp [Act.eval]) (app1n (HS2.out.drew.nu.nums.alloc _) (by have := HS2.out.lt; (try simp) <;> omega) (by rw [HRL.out]; have := HRN.out; omega) ⟨w2.heap.size, [x.a, x.b]⟩ 2 w2.heap.size (w2.heap.size + 1) rfl rfl (by simp)) ?_
      intro vn3 w3 ho3 hg3 hat3
      have HS3 := hide (HS2.out.drew.pushN [x.a, x.b] _ _ rfl ho3 hg3 hat3).1
      clear ho3 hg3 hat3
      obtain ⟨b0', off', x', hx', e1, _, hb0', d0', d1', _, _⟩ := (HR.out.pr.below HS3.out.below hB).pr hlt
      injection e1 with e1
      injection e1 with e1 e2
      subst e1 e2
      obtain rfl : x' = x := by have := HX.out; rw [hx'] at this; exact Option.some.inj this
      have kR3 := HS3.out.rq.cell
      clear hx'
      refine hK.out _ _ ⟨kR3 6, d0', d1'⟩ (fun _ => ?_)
      clear hK K
      try simp only [Act.put, List.getElem_toArray, List.getElem_cons_succ, List.getElem_cons_zero, List.setIfInBounds_toArray, List.set_cons_zero, List.set_cons_succ]
      refine wpAnyH_ready (rs := [16]) (by kernel_rfl) (by simp) ?_
      refine AllReadyH.cons rfl (fun K hK => ?_) AllReadyH.nil
      go_simp
      refine hK.out _ _ ⟨kR3 6, d0', d1'⟩ (fun _ => ?_)
      clear hK K
      try simp only [Act.put, List.getElem_toArray, List.getElem_cons_succ, List.getElem_cons_zero, List.setIfInBounds_toArray, List.set_cons_zero, List.set_cons_succ]
      refine wpAnyH_done (by kernel_rfl) ?_ _
      go_wp2_with fail
      go_roundw
      case rel => exact ⟨k + 1, _, by omega, by go_num, by rw [List.take_add_one, HX.out]; simpa [prRow] using HS3.out, by rw [List.take_add_one, HX.out, List.map_append, HRS.out]; simp [prRow]⟩
      case measure => simp [intOf]; omega
    · obtain rfl : n1 = k := by omega
      rw [List.take_of_length_le (by omega)] at HS HRS HRL HRN
      clear hlt ht hk
      obtain ⟨wa, hwa⟩ : ∃ wa : World, wa = wr := ⟨_, rfl⟩
      subst hwa
      go_wp2_with fail
      go_loopw [4, 5, 7] (fun vw vn i wr => ∃ (k : Nat) (rs : List NRow), k ≤ n2 ∧ i = .int .i64 k ∧ L4St w wr #[.int .i64 r.way, .int .i64 r.pal.w, .int .i64 r.pal.d, .int .i64 r.pal.h, .int .i64 r.pal.gram, .int .i64 r.cls, .slice A1 n1 c1, .slice A2 n2 c2, .int .i64 r.master, .slice A3 n3 c3] vw vn (((headRows r ++ r.pairs.map prRow) ++ (r.types.take k).map tyRow).map (·.1)) rs ∧ rs.map (·.xs) = ((headRows r ++ r.pairs.map prRow) ++ (r.types.take k).map tyRow).map (·.2)) (fun _ _ i _ => n2 - (intOf i).toNat)
      case atStart => exact ⟨0, rs, Nat.zero_le _, rfl, by simpa using HS.out, by simpa using HRS.out⟩
      case round =>
        obtain ⟨k, rs, hk, rfl, hst, hrs⟩ := hrel
        have HS := hide hst
        have kR := hst.rq.cell
        have yR := hst.rq.lt
        have ht : (r.types.take k).length = k := by rw [List.length_take]; omega
        have HRS := hide hrs
        have HRL := hide (show rs.length = ((headRows r ++ r.pairs.map prRow) ++ (r.types.take k).map tyRow).length by have := congrArg List.length hrs; simpa using this)
        have HRN := hide (show ((headRows r ++ r.pairs.map prRow) ++ (r.types.take k).map tyRow).length ≤ 2000000 by simp [headRows, ht]; omega)
        clear hst hrs
        by_cases hlt : k < n2
        · have i0 : (0 : Int) ≤ (k : Int) := by omega
          have i1 : (k : Int) < (n2 : Int) := by omega
          obtain ⟨b0, off, x, hx, rfl, _, hb0, d0, d1, d2, d3, d4, d5, d6, _⟩ := (HR.out.ty.below HS.out.below hB).ty hlt
          have HX := hide hx
          have zb : b0 < wr.heap.size := by omega
          have PT := hide (Blk.new wr 84 #[.int .i64 x.id, .int .i64 x.w, .int .i64 x.h, .int .i64 x.d, .int .i64 x.tare, .int .i64 x.gram, .int .i64 x.cost] (g := wr.heap.size) rfl)
          clear hx
          have HSA := hide (HS.out.alloc (.cells #[.int .i64 x.id, .int .i64 x.w, .int .i64 x.h, .int .i64 x.d, .int .i64 x.tare, .int .i64 x.gram, .int .i64 x.cost] 84))
          go_wp2_with (at_builtin; first | (refine wpList_app rfl _ _ rfl rfl rfl (app1sg HSA.out.nu.words HSA.out.lt (by (try simp [headRows]) <;> omega) (ByteArray.mk #[116, 121, 112, 101]) _ (by simp)) ?_; intro vw2 w2 ho2 hg2 hat2; have HS2 := hide (HSA.out.pushW _ ho2 hg2 hat2).1; have zz2 := (HSA.out.pushW _ ho2 hg2 hat2).2; have PT2 := hide ((PT.out.alloc _).grown hg2 (fun e => by have := (HS.out.nu.words.lt _ e.symm).2; omega)); have kT := PT2.out.cell; have yT := PT2.out.lt; clear ho2 hg2 hat2 kR yR; have kR := HS2.out.rq.cell; have yR := HS2.out.rq.lt) | (refine wpList_app rfl _ _ rfl rfl rfl (app1n (HS2.out.nu.nums.alloc _) (HS2.out.alloc _).lt (by rw [HRL.out]; have := HRN.out; omega) ⟨w2.heap.size, [x.id, x.w, x.h, x.d, x.tare, x.gram, x.cost]⟩ 7 w2.heap.size (w2.heap.size + 1) rfl rfl (by simp)) ?_; intro vn3 w3 ho3 hg3 hat3; have HS3 := hide (HS2.out.pushN [x.id, x.w, x.h, x.d, x.tare, x.gram, x.cost] _ _ rfl ho3 hg3 hat3).1; have zz3 := (HS2.out.pushN [x.id, x.w, x.h, x.d, x.tare, x.gram, x.cost] _ _ rfl ho3 hg3 hat3).2; clear ho3 hg3 hat3 kR yR; have kR := HS3.out.rq.cell; have yR := HS3.out.rq.lt))
          go_roundw
          case rel => exact ⟨k + 1, _, by omega, by go_num, by rw [List.take_add_one, HX.out]; simpa [tyRow] using HS3.out, by rw [List.take_add_one, HX.out, List.map_append, HRS.out]; simp [tyRow]⟩
          case measure => simp [intOf]; omega
        · obtain rfl : n2 = k := by omega
          rw [List.take_of_length_le (by omega)] at HS HRS HRL HRN
          clear hlt ht hk
          obtain ⟨wa, hwa⟩ : ∃ wa : World, wa = wr := ⟨_, rfl⟩
          subst hwa
          go_wp2_with (at_builtin; first | (refine wpList_app rfl _ _ rfl rfl rfl (app1sg HS.out.nu.words HS.out.lt (by (try simp [headRows]) <;> omega) (ByteArray.mk #[109, 97, 115, 116, 101, 114]) _ (by simp)) ?_; intro vw2 w2 ho2 hg2 hat2; have HS2 := hide (HS.out.pushW _ ho2 hg2 hat2).1; have zz2 := (HS.out.pushW _ ho2 hg2 hat2).2; clear ho2 hg2 hat2 kR yR; have kR := HS2.out.rq.cell; have yR := HS2.out.rq.lt) | (refine wpList_app rfl _ _ rfl rfl rfl (app1n (HS2.out.nu.nums.alloc _) (HS2.out.alloc _).lt (by rw [HRL.out]; have := HRN.out; omega) ⟨w2.heap.size, [r.master]⟩ 1 w2.heap.size (w2.heap.size + 1) rfl rfl (by simp)) ?_; intro vn3 w3 ho3 hg3 hat3; have HS3 := hide (HS2.out.pushN [r.master] _ _ rfl ho3 hg3 hat3).1; have zz3 := (HS2.out.pushN [r.master] _ _ rfl ho3 hg3 hat3).2; clear ho3 hg3 hat3 kR yR; have kR := HS3.out.rq.cell; have yR := HS3.out.rq.lt))
          go_loopw [4, 5, 9] (fun vw vn i wr => ∃ (k : Nat) (rs : List NRow), k ≤ n3 ∧ i = .int .i64 k ∧ L4St w wr #[.int .i64 r.way, .int .i64 r.pal.w, .int .i64 r.pal.d, .int .i64 r.pal.h, .int .i64 r.pal.gram, .int .i64 r.cls, .slice A1 n1 c1, .slice A2 n2 c2, .int .i64 r.master, .slice A3 n3 c3] vw vn (((((headRows r ++ r.pairs.map prRow) ++ r.types.map tyRow) ++ [mRow r.master]) ++ (r.items.take k).map itRow).map (·.1)) rs ∧ rs.map (·.xs) = ((((headRows r ++ r.pairs.map prRow) ++ r.types.map tyRow) ++ [mRow r.master]) ++ (r.items.take k).map itRow).map (·.2)) (fun _ _ i _ => n3 - (intOf i).toNat)
          case atStart => exact ⟨0, _, Nat.zero_le _, rfl, by simpa [mRow] using HS3.out, by rw [List.map_append, HRS.out]; simp [mRow]⟩
          case round =>
            obtain ⟨k, rs, hk, rfl, hst, hrs⟩ := hrel
            have HS := hide hst
            have kR := hst.rq.cell
            have yR := hst.rq.lt
            have ht : (r.items.take k).length = k := by rw [List.length_take]; omega
            have HRS := hide hrs
            have HRL := hide (show rs.length = ((((headRows r ++ r.pairs.map prRow) ++ r.types.map tyRow) ++ [mRow r.master]) ++ (r.items.take k).map itRow).length by have := congrArg List.length hrs; simpa using this)
            have HRN := hide (show ((((headRows r ++ r.pairs.map prRow) ++ r.types.map tyRow) ++ [mRow r.master]) ++ (r.items.take k).map itRow).length ≤ 2000000 by simp [headRows, ht]; omega)
            clear hst hrs
            by_cases hlt : k < n3
            · have i0 : (0 : Int) ≤ (k : Int) := by omega
              have i1 : (k : Int) < (n3 : Int) := by omega
              obtain ⟨b0, off, x, hx, rfl, _, hb0, d0, d1, d2, d3, d4, d5, d6, _⟩ := (HR.out.it.below HS.out.below hB).it hlt
              have HX := hide hx
              have zb : b0 < wr.heap.size := by omega
              have PT := hide (Blk.new wr 86 #[.int .i64 x.id, .int .i64 x.w, .int .i64 x.h, .int .i64 x.d, .int .i64 x.gram, .int .i64 x.cls, .int .i64 x.cnt] (g := wr.heap.size) rfl)
              clear hx
              have HSA := hide (HS.out.alloc (.cells #[.int .i64 x.id, .int .i64 x.w, .int .i64 x.h, .int .i64 x.d, .int .i64 x.gram, .int .i64 x.cls, .int .i64 x.cnt] 86))
              go_wp2_with (at_builtin; first | (refine wpList_app rfl _ _ rfl rfl rfl (app1sg HSA.out.nu.words HSA.out.lt (by (try simp [headRows]) <;> omega) (ByteArray.mk #[105, 116, 101, 109]) _ (by simp)) ?_; intro vw2 w2 ho2 hg2 hat2; have HS2 := hide (HSA.out.pushW _ ho2 hg2 hat2).1; have zz2 := (HSA.out.pushW _ ho2 hg2 hat2).2; have PT2 := hide ((PT.out.alloc _).grown hg2 (fun e => by have := (HS.out.nu.words.lt _ e.symm).2; omega)); have kT := PT2.out.cell; have yT := PT2.out.lt; clear ho2 hg2 hat2 kR yR; have kR := HS2.out.rq.cell; have yR := HS2.out.rq.lt) | (refine wpList_app rfl _ _ rfl rfl rfl (app1n (HS2.out.nu.nums.alloc _) (HS2.out.alloc _).lt (by rw [HRL.out]; have := HRN.out; omega) ⟨w2.heap.size, [x.id, x.w, x.h, x.d, x.gram, x.cls, x.cnt]⟩ 7 w2.heap.size (w2.heap.size + 1) rfl rfl (by simp)) ?_; intro vn3 w3 ho3 hg3 hat3; have HS3 := hide (HS2.out.pushN [x.id, x.w, x.h, x.d, x.gram, x.cls, x.cnt] _ _ rfl ho3 hg3 hat3).1; have zz3 := (HS2.out.pushN [x.id, x.w, x.h, x.d, x.gram, x.cls, x.cnt] _ _ rfl ho3 hg3 hat3).2; clear ho3 hg3 hat3 kR yR; have kR := HS3.out.rq.cell; have yR := HS3.out.rq.lt))
              go_roundw
              case rel => exact ⟨k + 1, _, by omega, by go_num, by rw [List.take_add_one, HX.out]; simpa [itRow] using HS3.out, by rw [List.take_add_one, HX.out, List.map_append, HRS.out]; simp [itRow]⟩
              case measure => simp [intOf]; omega
            · obtain rfl : n3 = k := by omega
              rw [List.take_of_length_le (by omega)] at HS HRS HRL HRN
              clear hlt ht hk
              obtain ⟨wa, hwa⟩ : ∃ wa : World, wa = wr := ⟨_, rfl⟩
              subst hwa
              go_wp2_with fail
              go_ret2
              exact ⟨_, _, rs, rfl, HS.out.nu, HRS.out, HS.out.below⟩
end Go.Proofs.YtcjcmdikopipjaaDoor
