/- The law FnTransitive holds for every input: the call answers true, and each argument reads afterwards as it read before. -/
import Derived.Test.YtojmkkcjjlppiaaGla
import Derived.Test.YtojmkkcjjlppiaaDr3
import Derived.Test.YtojmkkcjjlppiaaMks
import Derived.Test.YtojmkkcjjlppiaaOpG
import Derived.Test.YtojmkkcjjlppiaaRw
import Derived.Test.YtojmkkcjjlppiaaS2
namespace Go.Proofs.Ytojmkkcjjlppiaa.fnTransitive
open Go.ChangeShapes Go.WideShapes Go.ChangeAt Go.RowKit Go.Deep
open Go.ChangeMaps (open_string)
set_option linter.unusedVariables false
set_option linter.unusedSimpArgs false


set_option maxRecDepth 20000 in
set_option maxHeartbeats 2000000 in
theorem walk (Ab : Option Addr) (nb cb : Nat) (b : List Int) (w : World) (hb : SlK 1 encByte w 0 w.heap.size Ab nb cb b ∧ ∀ z ∈ b, 0 ≤ z ∧ z ≤ 255) :
    Calls Try.prog 10 #[.slice Ab nb cb] w fun e w' => e = .returned (.bool true) ∧ Below w.heap.size w w' := by
  obtain ⟨hs, hb⟩ := hb
  have hcap := hs.cap
  have hmax := hs.max
  by_cases hbig : nb ≤ 1048576
  · go_enter Try.func10, Try.ntmps10
    go_wp2_with fail
    refine (big_no Ab nb cb _ hcap hmax hbig).mono ?_
    rintro e w' ⟨rfl, rfl⟩
    go_wp2_with fail
    refine (drawTransitive_any Ab nb cb b _ hs hb).mono ?_
    rintro e w1 ⟨⟨ps, A1, n1, c1, xs, A2, n2, c2, rfl, hp, hn1, hx, hn2⟩, hb1⟩
    have HP1 := hide hp
    have HX1 := hide hx
    have h1 := hb1
    have z1 := hb1.size
    clear hp hx hb1 hs hb
    go_wp2_with fail
    refine (trans_any w.heap.size w1.heap.size A1 n1 c1 ps w.heap.size w1.heap.size A2 n2 c2 xs _ HP1.out (Nat.le_refl _) HX1.out (Nat.le_refl _) (by omega)).mono ?_
    rintro e w2 ⟨rfl, hb2⟩
    have z2 := hb2.size
    have h2 := h1.trans (hb2.mono (by omega))
    have HP2 := hide (HP1.out.below hb2 (Nat.le_refl _))
    have HX2 := hide (HX1.out.below hb2 (Nat.le_refl _))
    obtain ⟨t, ht⟩ : ∃ t, trB ps xs = t := ⟨_, rfl⟩
    have HT := hide ht
    have HST := hide (strans_any w.heap.size w1.heap.size A1 n1 c1 ps w.heap.size w1.heap.size A2 n2 c2 xs w2 HP2.out (by omega) HX2.out (by omega))
    rw [ht] at HST ⊢
    clear ht hb2 HP1 HX1 h1
    go_wp2_with fail
    refine HST.out.mono ?_
    rintro e w3 ⟨rfl, hb3⟩
    have z3 := hb3.size
    have h3 := h2.trans (hb3.mono (by omega))
    have HP3 := hide (HP2.out.below hb3 (by omega))
    have HX3 := hide (HX2.out.below hb3 (by omega))
    clear hb3 HP2 HX2 h2 HST
    go_wp2_with fail
    refine (groups_any w.heap.size w1.heap.size A1 n1 c1 ps w.heap.size w1.heap.size A2 n2 c2 xs _ HP3.out (by omega) HX3.out (by omega) (by omega)).mono ?_
    rintro e w4 ⟨vg, rows, rfl, hg, hE, hb4⟩
    have z4 := hb4.size
    have h4 := h3.trans (hb4.mono (by omega))
    have HP4 := hide (HP3.out.below hb4 (by omega))
    have HX4 := hide (HX3.out.below hb4 (by omega))
    obtain ⟨N, hN⟩ : ∃ N, (grpR ps xs).length = N := ⟨_, rfl⟩
    have hl : rows.length = N := by rw [← hN, ← hE]; simp [rowsL]
    obtain ⟨Ag, cg, rfl, hr⟩ := hg.rows1 hl
    have HG4 := hide hr
    have HE := hide hE
    have HN := hide hN
    have hgc := hr.out.cap
    have hgm := hr.out.max
    clear hg hr hb4 HP3 HX3 h3 hE hN hl
    go_wp2_with fail
    refine (sgroups_any w.heap.size w1.heap.size A1 n1 c1 ps w.heap.size w1.heap.size A2 n2 c2 xs _ HP4.out (by omega) HX4.out (by omega)).mono ?_
    rintro e w5 ⟨vs, rows2, rfl, hg, hE, hb5⟩
    have z5 := hb5.size
    have h5 := h4.trans (hb5.mono (by omega))
    have HP5 := hide (HP4.out.below hb5 (by omega))
    have HG5 := hide (HG4.out.below hb5 (Nat.le_refl _))
    have hl : rows2.length = N := by rw [← HN.out, ← hE]; simp [rowsL]
    obtain ⟨As, cs, rfl, hr⟩ := hg.rows1 hl
    have hsc := hr.out.cap
    have hsm := hr.out.max
    clear hg hr hb5 HP4 HX4 HG4 h4 hE hl
    cases t
    · go_wp2
      go_ret
      exact ⟨rfl, h5⟩
    · obtain ⟨t2, ht2⟩ : ∃ t, tableB ps 4 = t := ⟨_, rfl⟩
      have HT2 := hide ht2
      have HST := hide (stableOk_any 4 w.heap.size w1.heap.size A1 n1 c1 ps w5 HP5.out)
      rw [ht2] at HST
      clear ht2
      cases t2
      · go_wp2_with (go_at_call 19; refine HST.out.mono ?_; rintro e w6 ⟨rfl, rfl⟩)
        go_ret
        exact ⟨rfl, h5⟩
      · have HA := hide (fun (i k : Nat) (gi gk : List Int) (hk : k < i) (hi : (grpR ps xs)[i]? = some gi) (hgk : (grpR ps xs)[k]? = some gk) (x y : Int) (hx : x ∈ gi) (hy : y ∈ gk) => apart_bes HT2.out HT.out hk hi hgk hx hy)
        have HR := hide (fun (i : Nat) (r : IRow) (h : rows[i]? = some r) => (show (grpR ps xs)[i]? = some r.xs by rw [← HE.out]; unfold rowsL; rw [List.getElem?_map, h]; rfl))
        have HBS := hide (fun x y W h h' => bes_any x y w.heap.size w1.heap.size A1 n1 c1 ps W h h')
        go_wp2_with (go_at_call 19; refine HST.out.mono ?_; rintro e w6 ⟨rfl, rfl⟩)
        clear HST HT2 HT HE HN
        go_loopw [7] (fun i wr => ∃ q : Nat, q ≤ N ∧ i = .int .i64 q ∧ Below w5.heap.size w5 wr) (fun i _ => N - (intOf i).toNat)
        case atStart => exact ⟨0, Nat.zero_le _, rfl, Below.refl _ _⟩
        case round =>
          obtain ⟨q, hq, rfl, hbel⟩ := hrel
          by_cases hlt : q < N
          · have HB1 := hide hbel
            obtain ⟨bg, og, ri, hri, rfl, _, hbg, cgi, _⟩ := (HG5.out.out.below hbel (by omega)).row hlt
            have HRI := hide hri
            have q0 : (0 : Int) ≤ (q : Int) := by omega
            have q1 : (q : Int) < (N : Int) := by omega
            clear hbel hri cgi
            go_wp2_with fail
            go_loopw [8] (fun i wr => ∃ p : Nat, p ≤ q ∧ i = .int .i64 p ∧ Below w5.heap.size w5 wr) (fun i _ => q - (intOf i).toNat)
            case atStart => exact ⟨0, Nat.zero_le _, rfl, HB1.out⟩
            case round =>
              clear HB1
              obtain ⟨p, hp, rfl, hbel⟩ := hrel
              by_cases hlt2 : p < q
              · have HB2 := hide hbel
                have hpN : p < N := by omega
                obtain ⟨bg', og', rk, hrk, e1, _, hbg', cgk, _⟩ := (HG5.out.out.below hbel (by omega)).row hpN
                injection e1 with e1
                injection e1 with e1 e2
                subst e1 e2
                have HRK := hide hrk
                have p0 : (0 : Int) ≤ (p : Int) := by omega
                have p1 : (p : Int) < (N : Int) := by omega
                have p2 : (p : Int) < (q : Int) := by omega
                clear hbel hrk cgk
                go_wp2_with fail
                go_loopw [9] (fun i wr => ∃ a : Nat, a ≤ ri.n ∧ i = .int .i64 a ∧ Below w5.heap.size w5 wr) (fun i _ => ri.n - (intOf i).toNat)
                case atStart => exact ⟨0, Nat.zero_le _, rfl, HB2.out⟩
                case round =>
                  clear HB2
                  obtain ⟨a, ha, rfl, hbel⟩ := hrel
                  obtain ⟨bg', og', ri', hri', e1, _, hbg', cgi, _⟩ := (HG5.out.out.below hbel (by omega)).row hlt
                  injection e1 with e1
                  injection e1 with e1 e2
                  subst e1 e2
                  obtain rfl : ri' = ri := by have := HRI.out; rw [hri'] at this; exact Option.some.inj this
                  have hII := HG5.out.inn _ (List.mem_of_getElem? hri')
                  have ic := hII.cap
                  have im := hII.max
                  clear hri' hII
                  by_cases hlt3 : a < ri'.n
                  · have HB3 := hide hbel
                    have a0 : (0 : Int) ≤ (a : Int) := by omega
                    have a1 : (a : Int) < (ri'.n : Int) := by omega
                    clear hbel
                    go_wp2_with fail
                    go_loopw [10] (fun i wr => ∃ b : Nat, b ≤ rk.n ∧ i = .int .i64 b ∧ Below w5.heap.size w5 wr) (fun i _ => rk.n - (intOf i).toNat)
                    case atStart => exact ⟨0, Nat.zero_le _, rfl, HB3.out⟩
                    case round =>
                      clear HB3 cgi
                      obtain ⟨d, hd, rfl, hbel⟩ := hrel
                      obtain ⟨bg', og', rk', hrk', e1, _, hbg', cgk, _⟩ := (HG5.out.out.below hbel (by omega)).row hpN
                      injection e1 with e1
                      injection e1 with e1 e2
                      subst e1 e2
                      obtain rfl : rk' = rk := by have := HRK.out; rw [hrk'] at this; exact Option.some.inj this
                      have hII := HG5.out.inn _ (List.mem_of_getElem? hrk')
                      have kc := hII.cap
                      have km := hII.max
                      clear hrk' hII
                      by_cases hlt4 : d < rk'.n
                      · have HB4 := hide hbel
                        have y4 := hbel.size
                        obtain ⟨bg', og', ri2, hri', e1, _, hbg', cgi, _⟩ := (HG5.out.out.below hbel (by omega)).row hlt
                        injection e1 with e1
                        injection e1 with e1 e2
                        subst e1 e2
                        obtain rfl : ri2 = ri' := by have := HRI.out; rw [hri'] at this; exact Option.some.inj this
                        obtain ⟨bx, ox, x, hx, eA, _, hbx, cx, _⟩ := ((HG5.out.inn _ (List.mem_of_getElem? hri')).below hbel (by omega)).int hlt3
                        obtain ⟨by_, oy, y, hy, eB, _, hby, cy, _⟩ := ((HG5.out.inn _ (List.mem_of_getElem? HRK.out)).below hbel (by omega)).int hlt4
                        have d0 : (0 : Int) ≤ (d : Int) := by omega
                        have d1 : (d : Int) < (rk'.n : Int) := by omega
                        have hf := HA.out q p _ _ hlt2 (HR.out q _ HRI.out) (HR.out p _ HRK.out) x y (List.mem_of_getElem? hx) (List.mem_of_getElem? hy)
                        have HC := hide (HBS.out x y)
                        rw [hf] at HC
                        rw [eA] at cgi
                        rw [eB] at cgk
                        have z0 : bg < wr.heap.size := by omega
                        have z1' : bx < wr.heap.size := by omega
                        have z2' : by_ < wr.heap.size := by omega
                        clear hbel hri' hx hy hf eA eB
                        go_wp2_with fail
                        go_region_held3 (fun w' => w'.cell? ⟨bg, og + q, none⟩ = some (.slice (some ⟨bx, ox, none⟩) ri2.n ri2.c) ∧ w'.cell? ⟨bg, og + p, none⟩ = some (.slice (some ⟨by_, oy, none⟩) rk'.n rk'.c) ∧ w'.cell? ⟨bx, ox + a, none⟩ = some (.int .i64 x) ∧ w'.cell? ⟨by_, oy + d, none⟩ = some (.int .i64 y)) (go_keep) ((go_at_call 21; refine (HC.out _ ((HP5.out.below HB4.out (by omega)).drew) (by (try simp) <;> omega)).mono ?_; rintro e w8 ⟨rfl, hb8⟩; have hcc := bcellD hb8))
                        go_wp2_with fail
                        go_roundw
                        case rel => exact ⟨d + 1, by omega, by go_num, HB4.out.drew.trans (hb8.mono (by (try simp) <;> omega))⟩
                        case measure => first | omega | (simp [intOf]; done) | (simp [intOf]; omega)
                      · have hge : rk'.n ≤ d := by omega
                        have HB4 := hide hbel
                        clear hlt4 hbel
                        go_wp2_with fail
                        go_roundw
                        case rel => exact ⟨a + 1, by omega, by go_num, HB4.out⟩
                        case measure => first | omega | (simp [intOf]; done) | (simp [intOf]; omega)
                  · have hge : ri'.n ≤ a := by omega
                    have HB3 := hide hbel
                    clear hlt3 hbel
                    go_wp2_with fail
                    go_roundw
                    case rel => exact ⟨p + 1, by omega, by go_num, HB3.out⟩
                    case measure => first | omega | (simp [intOf]; done) | (simp [intOf]; omega)
              · have hge : q ≤ p := by omega
                have HB2 := hide hbel
                clear hlt2 hbel
                go_wp2_with fail
                go_roundw
                case rel => exact ⟨q + 1, by omega, by go_num, HB2.out⟩
                case measure => first | omega | (simp [intOf]; done) | (simp [intOf]; omega)
          · have hge : N ≤ q := by omega
            have HB1 := hide hbel
            clear hlt hbel
            go_wp2_with fail
            go_ret
            exact ⟨rfl, h5.trans (HB1.out.mono (by omega))⟩
  · go_enter Try.func10, Try.ntmps10
    go_wp2_with fail
    refine (big_yes Ab nb cb _ hcap hmax hbig).mono ?_
    rintro e w' ⟨rfl, rfl⟩
    go_wp2
    go_ret
    exact ⟨rfl, Below.refl _ _⟩
set_option maxRecDepth 100000 in
set_option maxHeartbeats 1000000 in
theorem lifted (os : Os) (started : os.Started) (H : Type) (enc : TypeId × Value → H) :
    ReturnsInHanded {} Try.checked os 10 .any (Rows.fnTransitiveSpec.pre6 enc Try.prog Try.f10 Rows.fnTransitiveRow.domain false) (Rows.fnTransitiveSpec.post enc Try.prog Try.f10 false true false false) := by
  refine returnsInHanded_of_change (C := Try.checked) ownK started (by kernel_rfl) Try.func10
    (ChangeSpec.witness6 (enc := enc) (C := Try.checked) false ⟨#[], #[.slice none 0 0], []⟩ 8 (by kernel_rfl) (by kernel_rfl) (by kernel_rfl) (by kernel_rfl)) ?_
  intro W base args ds gs before hval0 hW hcnd _
  have hval : ∀ (j : Nat) t v, Try.f10.params[j]? = some t → args[j]? = some v → Value.okWide Try.prog W .any base t v := hval0
  have hW' := hW
  obtain ⟨p, q, hA0, hV, rfl, hfz, hnd⟩ := hW
  have hA : DataW.TrodAll enc Try.prog W 0 (fun _ => true) true Try.f10.params.toList args.toList ds p := hA0
  have hV' := hV
  obtain ⟨rfl, rfl⟩ := trodVars_none hV'
  rw [Try.params10] at hA hval
  obtain ⟨v0, vs0, d0, ds0, p0, q0, hargs, rfl, rfl, h0, r0⟩ := trodAll_cons hA
  obtain ⟨rfl, rfl, rfl⟩ := trodAll_nil r0
  obtain rfl : args = #[v0] := by cases args; simp_all
  have hz0 : W.noneFrozen p0 := fun b off hin => hfz b off (by simp [hin])
  obtain ⟨Ab, nb, cb, b, rfl, hb⟩ : ∃ A n c, ∃ xs : List Int, v0 = .slice A n c ∧ (SlK 1 encByte W 0 W.heap.size A n c xs ∧ ∀ z ∈ xs, 0 ≤ z ∧ z ≤ 255) := by
    obtain ⟨a0, len0, cap0, rfl⟩ := okWide_slice Try.underlying27 (hval 0 27 v0 rfl rfl)
    obtain ⟨fu, hf⟩ := h0
    exact open_bytes Try.underlying27 (by kernel_rfl) Try.underlying5 (by simpa [Value.cells] using hf) hz0
  refine (walk Ab nb cb b W hb).mono fun e W' ⟨he, hb⟩ => ?_
  subst he
  exact ⟨_, rfl, law_post laidO (by intro t ht; rw [Try.params10] at ht; simp only [List.mem_cons, List.not_mem_nil, or_false] at ht; subst ht; exact ⟨by kernel_rfl, of_decide_eq_true (by kernel_rfl)⟩) rfl (by kernel_rfl) Try.underlying4 hW' rfl hb⟩

theorem over : Rows.fnTransitiveRow.holds Try.pinned (OpenSpec.ofChange Rows.fnTransitiveSpec) :=
  OpenClaim.holds_of_wide 10 Try.f10 rfl rfl rfl rfl rfl rfl rfl ⟨rfl, rfl, rfl, rfl, rfl⟩ rfl rfl rfl rfl rfl (by kernel_rfl) Try.func10 (by kernel_rfl)
    (of_decide_eq_true (by kernel_rfl)) (by unfold Func.isWrapper; first | (rw [if_pos (by decide +kernel)]; kernel_rfl) | (rw [if_neg (by decide +kernel)]; exact ⟨rfl, rfl⟩))
    (fun os started H enc _ => lifted os started H enc)

theorem proved : Rows.FnTransitiveSaid :=
  over
#print axioms proved
end Go.Proofs.Ytojmkkcjjlppiaa.fnTransitive
