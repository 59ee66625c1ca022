/- OrderText of the program. -/
import Derived.Test.YtcjcmdikopipjaaDoorOt
import Derived.Test.YtcjcmdikopipjaaDoorShelf
namespace Go.Proofs.YtcjcmdikopipjaaDoor
open Go.ChangeShapes Go.WideShapes Go.ChangeAt Go.RowKit Go.Deep Go.Joins
set_option linter.unusedVariables false
set_option linter.unusedSimpArgs false

/-- A row of an order: its word and its numbers. -/
abbrev ORow := ByteArray × List Int
def prRow (p : Pr) : ORow := (⟨#[119, 105, 116, 104]⟩, [p.a, p.b])
def tyRow (t : Ty) : ORow := (⟨#[116, 121, 112, 101]⟩, [t.id, t.w, t.h, t.d, t.tare, t.gram, t.cost])
def itRow (x : It) : ORow := (⟨#[105, 116, 101, 109]⟩, [x.id, x.w, x.h, x.d, x.gram, x.cls, x.cnt])
def headRows (r : Rq) : List ORow := [(⟨#[112, 97, 108, 108, 101, 116]⟩, [r.pal.w, r.pal.d, r.pal.h, r.pal.gram]), (⟨#[99, 108, 97, 115, 115, 101, 115]⟩, [r.cls])]
def mRow (m : Int) : ORow := (⟨#[109, 97, 115, 116, 101, 114]⟩, [m])
def orderRows (r : Rq) : List ORow := (((headRows r ++ r.pairs.map prRow) ++ r.types.map tyRow) ++ [mRow r.master]) ++ r.items.map itRow
def rowOk (x : ORow) : Bool := numsOk x.2
def rowT (x : ORow) : ByteArray := lineR x.1 x.2
def wayS (way : Int) : ByteArray := if way = 0 then ⟨#[119, 97, 121, 32, 102, 105, 114, 115, 116, 10]⟩ else ⟨#[119, 97, 121, 32, 110, 101, 120, 116, 10]⟩
/-- The text of rows behind a first line. -/
def rowsT (w0 : ByteArray) (rows : List ORow) : ByteArray := rows.foldl (fun a x => a ++ rowT x) w0
def otS (r : Rq) : ByteArray := if inB r.way 0 1 = true then (if (orderRows r).all rowOk = true then rowsT (wayS r.way) (orderRows r) else ⟨#[]⟩) else ⟨#[]⟩
theorem lineF_size {nums : List Int} : ∀ {word : ByteArray}, (∀ x ∈ nums, inB x 0 999999 = true) → (nums.foldl lineF word).size ≤ word.size + 7 * nums.length := by
  induction nums with
  | nil => intro word _; simp
  | cons x xs ih =>
    intro word h
    rw [List.foldl_cons]
    have h1 := ih (word := lineF word x) fun y hy => h y (List.mem_cons_of_mem _ hy)
    have h2 := digS_small (h x (List.mem_cons_self ..))
    have h3 : (lineF word x).size ≤ word.size + 7 := by
      unfold lineF
      rw [ByteArray.size_append, ByteArray.size_append]
      have : (ByteArray.mk #[32]).size = 1 := rfl
      omega
    rw [List.length_cons]
    omega
theorem lineR_size {word : ByteArray} {nums : List Int} (hw : word.size ≤ 16) (hn : nums.length ≤ 16) : (lineR word nums).size ≤ 129 := by
  unfold lineR
  split
  · rename_i h
    unfold numsOk at h
    have := lineF_size (word := word) fun x hx => (List.all_eq_true.1 h) x hx
    unfold lineS
    rw [ByteArray.size_append]
    have e : (ByteArray.mk #[10]).size = 1 := rfl
    omega
  · show (0 : Nat) ≤ 129
    omega
/-- What the closure's boxes hold while rows are put. -/
structure OtSt (w0 w : World) (R base Ob Gb : Nat) (RL : Array Value) (wy : ByteArray) (rows : List ORow) : Prop where
  rq : Blk w R 41 RL
  good : Blk w Gb 4 #[.bool (rows.all rowOk)]
  lines : ∃ v, Blk w Ob 50 #[v] ∧ Own 1 encStr 9 w base v (wy :: rows.map rowT) ∧ ∀ z, v.ownBlock = some z → z = base ∨ Gb < z
  below : Below w0.heap.size w0 w
  ord : w0.heap.size ≤ R ∧ R < base ∧ base < Ob ∧ Ob < Gb
theorem OtSt.alloc {w0 w : World} {R base Ob Gb : Nat} {RL : Array Value} {wy : ByteArray} {rows : List ORow} (h : OtSt w0 w R base Ob Gb RL wy rows) (o : Obj) : OtSt w0 (w.alloc o) R base Ob Gb RL wy rows := by
  obtain ⟨h1, h2, ⟨v, h3, h4, h5⟩, h6, h7⟩ := h
  exact ⟨h1.alloc o, h2.alloc o, ⟨v, h3.alloc o, h4.alloc o, h5⟩, h6.alloc h6.size o, h7⟩
theorem OtSt.lt {w0 w : World} {R base Ob Gb : Nat} {RL : Array Value} {wy : ByteArray} {rows : List ORow} (h : OtSt w0 w R base Ob Gb RL wy rows) : Gb < w.heap.size := h.good.lt
theorem put_st (word : ByteArray) (nums : List Int) (lo hi : Nat) (A : Option Addr) (n c : Nat) (w0 w : World) (R base Ob Gb : Nat) (RL : Array Value) (wy : ByteArray) (rows : List ORow) (hst : OtSt w0 w R base Ob Gb RL wy rows) (hs : SlK 1 encInt w lo hi A n c nums) (hB : hi ≤ w.heap.size) (hn : n ≤ 16) (hw : word.size ≤ 16)
    (htab : Lib.TabIs Tryd.prog w0 "internal/strconv.uint64pow10" .u64 Lib.pow10Tab) (hxl : rows.length ≤ 4194303) :
    Calls Tryd.prog 48 #[.string word, .slice A n c, .pointer (some ⟨Gb, 0, none⟩), .pointer (some ⟨Ob, 0, none⟩)] w fun e w' => e = .returned (.tuple #[]) ∧ OtSt w0 w' R base Ob Gb RL wy (rows ++ [(word, nums)]) ∧ w.heap.size ≤ w'.heap.size := by
  obtain ⟨h1, h2, ⟨v, h3, h4, h5⟩, h6, h7⟩ := hst
  refine (put_any word nums lo hi A n c Ob Gb base _ v _ w hs hB hn hw (tab_stays gPow htab h6 (Nat.le_refl _)) h2 h3 h4 h5 h7.2.2.1 h7.2.2.2 (by simp; omega)).mono ?_
  rintro e w' ⟨v', rfl, g1, g2, g3, g4, g5⟩
  refine ⟨rfl, ⟨h1.below g5 h7.2.1, ?_, ⟨v', g2, ?_, g4⟩, h6.trans (g5.mono (by omega)), h7⟩, g5.size⟩
  · rw [List.all_append]
    simpa [rowOk] using g1
  · simpa [rowT] using g3
end Go.Proofs.YtcjcmdikopipjaaDoor
