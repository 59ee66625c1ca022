/- Draws of numbers and of texts in parts. -/
import Derived.Test.YtcjcmdikopipjaaDoorDk
import Derived.Test.YtcjcmdikopipjaaDoorStr
namespace Go.Proofs.YtcjcmdikopipjaaDoor
open Go.ChangeShapes Go.WideShapes Go.ChangeAt Go.RowKit Go.Deep
set_option linter.unusedVariables false
set_option linter.unusedSimpArgs false

set_option maxHeartbeats 1000000 in
theorem drawDigits_any (A : Option Addr) (n c : Nat) (bs : List Int) (w : World) (hs : SlK 1 encByte w 0 w.heap.size A n c bs) (hb : ∀ b ∈ bs, 0 ≤ b ∧ b ≤ 255) :
    Calls Tryd.prog 20 #[.slice A n c] w fun e w' => (∃ x : Int, e = .returned (.int .i64 x) ∧ -9223372036854775808 ≤ x ∧ x ≤ 9223372036854775807) ∧ Below w.heap.size w w' := by
  go_enter Tryd.func20, Tryd.ntmps20
  go_wp2_with fail
  refine (l1New_any A n c bs _ hs hb).mono ?_
  rintro e w1 ⟨rfl, hc1, hb1⟩
  have hgl := hc1.lt
  have z1 := hb1.size
  go_wp2_with fail
  refine (l1PickInt_any (some ⟨w1.heap.size, 0, none⟩) 6 6 [0, 7, -12, 100000, 9223372036854775807, -9223372036854775808] w1.heap.size (w1.heap.size + 1) (by omega) (by omega) _ A n c bs _ (slk_new encInt_len _ [0, 7, -12, 100000, 9223372036854775807, -9223372036854775808] 6 _ _ rfl (by simp [maxLen]) rfl) (by simp) (.inl (by omega)) (hc1.alloc _)).mono ?_
  rintro e w2 ⟨⟨x, rfl, hx⟩, hc2, hg2⟩
  have hx2 : -9223372036854775808 ≤ x ∧ x ≤ 9223372036854775807 := by
    simp only [List.mem_cons, List.not_mem_nil, or_false] at hx
    omega
  have hb2 := (hb1.alloc z1 (.cells #[.int .i64 0, .int .i64 7, .int .i64 (-12), .int .i64 100000, .int .i64 9223372036854775807, .int .i64 (-9223372036854775808)] 3)).grown hg2 (by simp; omega) (fun x hx => by have hx' : w.heap.size = x := Option.some.inj hx; omega)
  clear hx hg2 hc2 hc1 hb1
  go_wp2_with fail
  go_ret
  exact ⟨⟨x, rfl, hx2⟩, hb2⟩
theorem l1Pick_any (B : Option Addr) (m cb : Nat) (xs : List ByteArray) (lo hi : Nat) (hm0 : 0 < m) (hm : m ≤ 256) (g : Nat) (A : Option Addr) (n c : Nat) (bs : List Int) (w : World) (hs : SlK 1 encStr w lo hi B m cb xs) (hB : hi ≤ w.heap.size) (hg : g < lo ∨ hi ≤ g) (hc : CurAt 128 w g A n c bs) :
    Calls Tryd.prog 57 #[.pointer (some ⟨g, 0, none⟩), .slice B m cb] w fun e w' => (∃ x : ByteArray, e = .returned (.string x) ∧ x ∈ xs) ∧ CurAt 128 w' g A n c bs ∧ w.grownBy w' (some g) := by
  have hcm := hs.max
  have hcc := hs.cap
  go_enter Tryd.func57, Tryd.ntmps57
  go_wp2_with fail
  refine (l1Below_any m (by omega) (by omega) g A n c bs _ hc).mono ?_
  rintro e w1 ⟨⟨x, rfl, h0, h1⟩, hc1, hg1⟩
  obtain ⟨k, rfl⟩ := Int.eq_ofNat_of_zero_le h0
  have hlt : k < m := by omega
  have hs1 := hs.grown hg1 hB (fun r hr => by injection hr with hr; omega)
  obtain ⟨b0, off, y, hy, rfl, _, hb, c0, _⟩ := hs1.str hlt
  have HY := hide (List.mem_of_getElem? hy)
  clear hs hs1 hy
  have i1 : (k : Int) < (m : Int) := by omega
  go_wp2_with fail
  go_ret
  exact ⟨⟨y, rfl, HY.out⟩, hc1, hg1⟩
def drawnTexts : List ByteArray := [⟨#[]⟩, ⟨#[97]⟩, ⟨#[97, 44, 98]⟩, ⟨#[44]⟩, ⟨#[97, 44, 44, 98, 44]⟩, ⟨#[97, 47, 98, 44, 99, 47]⟩]
theorem drawn_size : ∀ x ∈ drawnTexts, x.size ≤ 6 := by
  intro x hx
  unfold drawnTexts at hx
  simp only [List.mem_cons, List.not_mem_nil, or_false] at hx
  rcases hx with rfl | rfl | rfl | rfl | rfl | rfl <;> decide
set_option maxRecDepth 20000 in
set_option maxHeartbeats 1000000 in
theorem drawParts_any (A : Option Addr) (n c : Nat) (bs : List Int) (w : World) (hs : SlK 1 encByte w 0 w.heap.size A n c bs) (hb : ∀ b ∈ bs, 0 ≤ b ∧ b ≤ 255) :
    Calls Tryd.prog 21 #[.slice A n c] w fun e w' => (∃ (s : ByteArray) (b : Int), e = .returned (.tuple #[.string s, .int .u8 b]) ∧ s.size ≤ 6 ∧ 0 ≤ b ∧ b ≤ 255) ∧ Below w.heap.size w w' := by
  go_enter Tryd.func21, Tryd.ntmps21
  go_wp2_with fail
  refine (l1New_any A n c bs _ hs hb).mono ?_
  rintro e w1 ⟨rfl, hc1, hb1⟩
  have hgl := hc1.lt
  have z1 := hb1.size
  go_wp2_with fail
  have hsl := slk_new encStr_len w1 drawnTexts 6 (#[.string ⟨#[]⟩, .string ⟨#[97]⟩, .string ⟨#[97, 44, 98]⟩, .string ⟨#[44]⟩, .string ⟨#[97, 44, 44, 98, 44]⟩, .string ⟨#[97, 47, 98, 44, 99, 47]⟩]) 9 rfl (by simp [maxLen]) rfl
  refine (l1Pick_any (some ⟨w1.heap.size, 0, none⟩) 6 6 drawnTexts w1.heap.size (w1.heap.size + 1) (by omega) (by omega) _ A n c bs _ hsl (by simp) (.inl (by omega)) (hc1.alloc _)).mono ?_
  rintro e w2 ⟨⟨x, rfl, hx⟩, hc2, hg2⟩
  have hx6 := drawn_size x hx
  have z2 : w1.heap.size + 1 ≤ w2.heap.size := by simpa using hg2.size
  have hb2 := (hb1.alloc z1 (.cells #[.string ⟨#[]⟩, .string ⟨#[97]⟩, .string ⟨#[97, 44, 98]⟩, .string ⟨#[44]⟩, .string ⟨#[97, 44, 44, 98, 44]⟩, .string ⟨#[97, 47, 98, 44, 99, 47]⟩] 9)).grown hg2 (by simp; omega) (fun x hx => by have hx' : w.heap.size = x := Option.some.inj hx; omega)
  have HC2 := hide hc2
  have HB2 := hide hb2
  clear hsl hx hg2 hc1 hb1 hc2 hb2
  go_wp2_with fail
  refine (l1PickInt_any (some ⟨w2.heap.size, 0, none⟩) 2 2 [44, 47] w2.heap.size (w2.heap.size + 1) (by omega) (by omega) _ A n c bs _ (slk_new encInt_len _ [44, 47] 2 _ _ rfl (by simp [maxLen]) rfl) (by simp) (.inl (by omega)) (HC2.out.alloc _)).mono ?_
  rintro e w3 ⟨⟨y, rfl, hy⟩, hc3, hg3⟩
  have hy2 : y = 44 ∨ y = 47 := by
    simpa using hy
  have HB3 := hide ((HB2.out.alloc (by omega) (.cells #[.int .i64 44, .int .i64 47] 3)).grown hg3 (by simp; omega) (fun x hx => by have hx' : w.heap.size = x := Option.some.inj hx; omega))
  clear hy hc3 hg3 HC2 HB2
  have y0 : 0 ≤ y := by omega
  have y1 : y ≤ 255 := by omega
  go_wp2_with fail
  go_ret2
  exact ⟨⟨x, y, rfl, hx6, y0, y1⟩, HB3.out⟩
end Go.Proofs.YtcjcmdikopipjaaDoor
