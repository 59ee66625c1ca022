/- The draws of pairs and of lists of kinds. -/
import Derived.Test.YtcjcmdikopipjaaDoorRt
import Derived.Test.YtcjcmdikopipjaaDoorMrg
namespace Go.Proofs.YtcjcmdikopipjaaDoor
open Go.ChangeShapes Go.WideShapes Go.ChangeAt Go.RowKit Go.Deep
set_option linter.unusedVariables false
set_option linter.unusedSimpArgs false

theorem appPrS {w : World} {base : Nat} {v : Value} {xs : List Pr} (ho : Own 2 encPr 82 w base v xs) (hb : base ≤ w.heap.size) (hn : xs.length ≤ 4194304) {lo hi m c : Nat} {A : Option Addr} {ys : List Pr} (hs : SlK 2 encPr w lo hi A m c ys) (hm : m ≤ 4194304) :
    AppOk Tryd.prog 2 encPr w base 37 82 v xs A m c ys where
  hk := encPr_len
  h1 := encPr_oneD
  ht := Tryd.underlying37
  info := ⟨zPr, 16, pairInfo, rfl, by omega⟩
  pos := by omega
  own := ho
  src := ⟨_, _, hs⟩
  h63 := by unfold maxLen; omega
  hb := hb
theorem own_litK {α : Type} {k : Nat} {enc : α → List Value} (w : World) (e : TypeId) (base : Nat) (hb : base ≤ w.heap.size) {g : Nat} (hg : g = w.heap.size) : Own k enc e (w.alloc (.cells #[] e)) base (.slice (some ⟨g, 0, none⟩) 0 0) ([] : List α) := by
  subst hg
  have := World.ownsRow_lit (base := base) (size := k) (e := e) w #[] 0 hb (by simp [maxLen]) (by simp)
  show World.ownsRow _ base e k _ 0 []
  exact this
theorem slk_of_own {α : Type} {k : Nat} {enc : α → List Value} (hk : ∀ x, (enc x).length = k) {w : World} {base n c : Nat} {e : TypeId} {A : Option Addr} {xs : List α} (h : Own k enc e w base (.slice A n c) xs) (hn : xs.length = n) : SlK k enc w base w.heap.size A n c xs := by
  obtain ⟨A', c', e', s⟩ := Own.slk' hk hn h
  injection e' with e1 _ e3
  subst e1 e3
  exact s
end Go.Proofs.YtcjcmdikopipjaaDoor
