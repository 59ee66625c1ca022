/- Regions that draw their order, walked by an invariant: each operation once, whatever the order. -/
import Derived.OrdersHeld
import Derived.Deep.RegionHeld3
import Derived.Deep.Draws
namespace Go.Proofs.Ytkpakpjbpmnbgaa
open Go

section
variable {P : Program} {ops : Array Oper} {Q : Exit → Act → World → Prop} {md : Region.Mode}
/-- What is known while the first k operations of a region go on: the slots that they do not write stand as at the start; whatever has come up has left what V says. -/
structure RInv (ops : Array Oper) (k : Nat) (V : Nat → Value → World → Prop) (WI : World → Prop) (a0 : Act) (listed : Array Bool) (a : Act) (w : World) : Prop where
  defers : a.defers = a0.defers
  size : a.tmps.size = a0.tmps.size
  rest : ∀ s : Nat, (∀ (i : Nat) (o : Oper), i < k → ops[i]? = some o → o.dst ≠ some s) → a.tmps[s]? = a0.tmps[s]?
  wi : WI w
  vals : ∀ (i : Nat) (o : Oper) (d : Nat), i < k → ops[i]? = some o → o.dst = some d → listed.getD i false = true → ∃ v, a.tmps[d]? = some v ∧ V i v w
/-- What an operation is handed. -/
structure RHave (ops : Array Oper) (k : Nat) (V : Nat → Value → World → Prop) (WI : World → Prop) (md : Region.Mode) (a0 : Act) (o : Oper) (a : Act) (w : World) : Prop where
  defers : a.defers = a0.defers
  size : a.tmps.size = a0.tmps.size
  rest : ∀ s : Nat, (∀ (i : Nat) (o : Oper), i < k → ops[i]? = some o → o.dst ≠ some s) → a.tmps[s]? = a0.tmps[s]?
  wi : WI w
  vals : ∀ e ∈ o.after, Region.binds md e = true → ∀ (oe : Oper) (d : Nat), ops[e.on]? = some oe → oe.dst = some d → ∃ v, a.tmps[d]? = some v ∧ V e.on v w
def dstApart (ops : Array Oper) : Bool := (List.range ops.size).all fun i => (List.range ops.size).all fun j => i == j || (match ops[i]?, ops[j]? with
  | some a, some b => (match a.dst, b.dst with
    | some x, some y => x != y
    | _, _ => true)
  | _, _ => true)
theorem dstApart_spec (h : dstApart ops = true) {i j : Nat} {oi oj : Oper} {d : Nat} (hi : ops[i]? = some oi) (hj : ops[j]? = some oj) (di : oi.dst = some d) (dj : oj.dst = some d) : i = j := by
  have li := (Array.getElem?_eq_some_iff.1 hi).1
  have lj := (Array.getElem?_eq_some_iff.1 hj).1
  have h1 := (List.all_eq_true.1 ((List.all_eq_true.1 h) i (List.mem_range.2 li))) j (List.mem_range.2 lj)
  simp only [hi, hj, di, dj] at h1
  simpa using h1
/-- Each operation waits for earlier ones alone, and each slot that is written is there. -/
def regionOk (ops : Array Oper) (n : Nat) : Bool := dstApart ops && (List.range ops.size).all fun i => match ops[i]? with
  | some o => o.after.all (fun e => decide (e.on < i)) && (match o.dst with | some d => decide (d < n) | none => true)
  | none => true
theorem regionOk_spec {n : Nat} (h : regionOk ops n = true) {i : Nat} {o : Oper} (hi : ops[i]? = some o) : (∀ e ∈ o.after, e.on < i) ∧ ∀ d, o.dst = some d → d < n := by
  have li := (Array.getElem?_eq_some_iff.1 hi).1
  simp only [regionOk, Bool.and_eq_true] at h
  have h1 := (List.all_eq_true.1 h.2) i (List.mem_range.2 li)
  simp only [hi, Bool.and_eq_true] at h1
  refine ⟨fun e he => by simpa using (Array.all_eq_true_iff_forall_mem.1 h1.1) e he, fun d hd => ?_⟩
  have := h1.2
  rw [hd] at this
  simpa using this
theorem all_listed {n : Nat} {listed : Array Bool} (h : regionOk ops n = true) (hs : listed.size = ops.size) (hr : Region.ready md ops listed = []) : ∀ i, i < ops.size → listed.getD i false = true := by
  intro i
  induction i using Nat.strongRecOn with
  | ind i ih =>
    intro hi
    cases hc : listed.getD i false
    · have : i ∈ Region.ready md ops listed := mem_ready.2 ⟨by
        have hl : i < listed.size := by omega
        simp only [Array.getD_eq_getD_getElem?, Array.getElem?_eq_getElem hl, Option.getD_some] at hc ⊢
        exact hc, ops[i], Array.getElem?_eq_getElem hi, fun e he _ => by
          have h1 := (regionOk_spec h (Array.getElem?_eq_getElem hi)).1 e he
          exact ih e.on h1 (by omega)⟩
      rw [hr] at this
      cases this
    · rfl
theorem count_set {l : List Bool} {i : Nat} (h : l[i]? = some false) : (l.set i true).count false + 1 = l.count false := by
  obtain ⟨hi, he⟩ := List.getElem?_eq_some_iff.1 h
  have hp : 0 < l.count false := List.count_pos_iff.2 (by rw [← he]; exact List.getElem_mem hi)
  rw [List.count_set hi, he]
  simp
  omega
/-- Those that operation j waits for. -/
def depsOf (md : Region.Mode) (ops : Array Oper) (j : Nat) : List Nat := match ops[j]? with
  | some o => (o.after.toList.filter fun e => Region.binds md e).map fun e => e.on
  | none => []
def ancOf (md : Region.Mode) (ops : Array Oper) : Nat → List Nat → List Nat
  | 0, s => s
  | j + 1, s => ancOf md ops j (bif s.contains j then depsOf md ops j ++ s else s)
/-- Each operation from number k on waits for all before k. -/
def cutOk (md : Region.Mode) (ops : Array Oper) (k : Nat) : Bool := (List.range ops.size).all fun i => decide (i < k) || (let s := ancOf md ops i (depsOf md ops i); (List.range k).all fun j => s.contains j)
def Closed (md : Region.Mode) (ops : Array Oper) (listed : Array Bool) : Prop := ∀ j, listed.getD j false = true → ∀ x ∈ depsOf md ops j, listed.getD x false = true
theorem ancOf_listed {listed : Array Bool} (hc : Closed md ops listed) : ∀ (j : Nat) (s : List Nat), (∀ x ∈ s, listed.getD x false = true) → ∀ x ∈ ancOf md ops j s, listed.getD x false = true
  | 0, s, h => h
  | j + 1, s, h => by
    unfold ancOf
    cases hj : s.contains j
    · exact ancOf_listed hc j s h
    · refine ancOf_listed hc j _ fun x hx => ?_
      rw [cond_true, List.mem_append] at hx
      rcases hx with hx | hx
      · exact hc j (h j (by simpa using hj)) x hx
      · exact h x hx
theorem deps_ready {listed : Array Bool} {i : Nat} (hi : i ∈ Region.ready md ops listed) : ∀ x ∈ depsOf md ops i, listed.getD x false = true := by
  obtain ⟨_, o, ho, hall⟩ := mem_ready.1 hi
  intro x hx
  unfold depsOf at hx
  rw [ho] at hx
  simp only [List.mem_map, List.mem_filter] at hx
  obtain ⟨e, ⟨he, hb⟩, rfl⟩ := hx
  exact hall e (by simpa using he) hb
theorem cutOk_spec {k : Nat} (h : cutOk md ops k = true) {listed : Array Bool} (hc : Closed md ops listed) {i : Nat} (hi : i ∈ Region.ready md ops listed) (hk : k ≤ i) : ∀ j, j < k → listed.getD j false = true := by
  intro j hj
  obtain ⟨_, o, ho, _⟩ := mem_ready.1 hi
  have hl := (Array.getElem?_eq_some_iff.1 ho).1
  have h1 := (List.all_eq_true.1 h) i (List.mem_range.2 hl)
  simp only [Bool.or_eq_true, decide_eq_true_eq] at h1
  rcases h1 with h1 | h1
  · omega
  · have h2 := (List.all_eq_true.1 h1) j (List.mem_range.2 hj)
    exact ancOf_listed hc i _ (deps_ready hi) j (by simpa using h2)
/-- The first k have come up, no other. -/
def cutArr (n k : Nat) : Array Bool := (List.replicate k true ++ List.replicate (n - k) false).toArray
theorem cutArr_eq {listed : Array Bool} {n k : Nat} (hs : listed.size = n) (hk : k ≤ n) (h1 : ∀ j, j < k → listed.getD j false = true) (h2 : ∀ j, k ≤ j → listed.getD j false = false) : listed = cutArr n k := by
  apply Array.ext_getElem?
  intro j
  have e0 : (cutArr n k)[j]? = (List.replicate k true ++ List.replicate (n - k) false)[j]? := List.getElem?_toArray
  rw [e0]
  rcases Nat.lt_or_ge j k with hj | hj
  · rw [List.getElem?_append_left (by simpa using hj), List.getElem?_replicate, if_pos hj]
    have := h1 j hj
    have hl : j < listed.size := by omega
    simp only [Array.getD_eq_getD_getElem?, Array.getElem?_eq_getElem hl, Option.getD_some] at this
    rw [Array.getElem?_eq_getElem hl, this]
  · rw [List.getElem?_append_right (by simpa using hj), List.getElem?_replicate]
    rcases Nat.lt_or_ge j n with hn | hn
    · rw [if_pos (by simp; omega)]
      have := h2 j hj
      have hl : j < listed.size := by omega
      simp only [Array.getD_eq_getD_getElem?, Array.getElem?_eq_getElem hl, Option.getD_some] at this
      rw [Array.getElem?_eq_getElem hl, this]
    · rw [if_neg (by simp; omega), Array.getElem?_eq_none (by omega)]
theorem cutArr_count (n k : Nat) : (cutArr n k).toList.count false = n - k := by
  unfold cutArr
  simp [List.count_append, List.count_replicate]
theorem wpAny_cut (k : Nat) (V : Nat → Value → World → Prop) (WI : World → Prop) (Step : World → World → Prop) (a0 : Act) (hok : regionOk ops a0.tmps.size = true) (hcut : cutOk md ops k = true) (hkn : k ≤ ops.size)
    (hst : ∀ i v w w', V i v w → Step w w' → V i v w')
    (hop : ∀ i o, i < k → ops[i]? = some o → ∀ a w, RHave ops k V WI md a0 o a w → wpOp P ops Q i (fun a' w' => ∃ v, a' = a.put o.dst v ∧ V i v w' ∧ Step w w' ∧ WI w') a w)
    (hend : ∀ a w, RInv ops k V WI a0 (cutArr ops.size k) a w → wpAny P md ops Q (ops.size - k) (cutArr ops.size k) a w) :
    ∀ (fuel : Nat) (listed : Array Bool) (a : Act) (w : World), listed.size = ops.size → listed.toList.count false = fuel → Closed md ops listed → (∀ j, k ≤ j → listed.getD j false = false) → RInv ops k V WI a0 listed a w → wpAny P md ops Q fuel listed a w := by
  have hap : dstApart ops = true := by simp only [regionOk, Bool.and_eq_true] at hok; exact hok.1
  have fin : ∀ (fuel : Nat) (listed : Array Bool) (a : Act) (w : World), listed.size = ops.size → listed.toList.count false = fuel → (∀ j, k ≤ j → listed.getD j false = false) → RInv ops k V WI a0 listed a w → (∀ j, j < k → listed.getD j false = true) → wpAny P md ops Q fuel listed a w := fun fuel listed a w hs hc h2 hI h1 => by
    have e := cutArr_eq hs hkn h1 h2
    subst e
    rw [cutArr_count] at hc
    subst hc
    exact hend a w hI
  intro fuel
  induction fuel with
  | zero =>
    intro listed a w hs hc hcl h2 hI
    refine fin 0 listed a w hs hc h2 hI fun j hj => ?_
    cases hq : listed.getD j false
    · have hl : j < listed.size := by omega
      simp only [Array.getD_eq_getD_getElem?, Array.getElem?_eq_getElem hl, Option.getD_some] at hq
      have : false ∈ listed.toList := by rw [← hq]; simp
      have := List.count_pos_iff.2 this
      omega
    · rfl
  | succ fuel ih =>
    intro listed a w hs hc hcl h2 hI
    by_cases hall : ∀ j, j < k → listed.getD j false = true
    · exact fin _ listed a w hs hc h2 hI hall
    refine ⟨fun hr => absurd (fun j hj => all_listed hok hs hr j (by omega)) hall, fun i hi => ?_⟩
    have hik : i < k := by
      rcases Nat.lt_or_ge i k with h | h
      · exact h
      · exact absurd (cutOk_spec hcut hcl hi h) hall
    obtain ⟨h0, o, ho, hdep⟩ := mem_ready.1 hi
    have hl : i < listed.size := by rw [hs]; exact (Array.getElem?_eq_some_iff.1 ho).1
    refine wpOp_mono ?_ (hop i o hik ho a w ⟨hI.defers, hI.size, hI.rest, hI.wi, fun e he hb oe d h1 h2' => hI.vals e.on oe d (by have := (regionOk_spec hok ho).1 e he; omega) h1 h2' (hdep e he hb)⟩)
    rintro a' w' ⟨v, rfl, hV, hS, hW⟩
    refine ih _ _ _ (by simp [hs]) ?_ ?_ ?_ ⟨?_, ?_, ?_, hW, ?_⟩
    · have h1 : listed.toList[i]? = some false := by
        simp only [Array.getD_eq_getD_getElem?, Array.getElem?_eq_getElem hl, Option.getD_some] at h0
        rw [Array.getElem?_toList, Array.getElem?_eq_getElem hl, h0]
      have := count_set h1
      rw [Array.toList_setIfInBounds]
      omega
    · intro j hj x hx
      refine getD_set_true ?_
      by_cases e : i = j
      · subst e
        exact deps_ready hi x hx
      · rw [getD_set_ne false e] at hj
        exact hcl j hj x hx
    · intro j hj
      rw [getD_set_ne false (by omega)]
      exact h2 j hj
    · cases hd : o.dst <;> simp only [Act.put] <;> exact hI.defers
    · cases hd : o.dst <;> simp only [Act.put, Array.size_setIfInBounds] <;> exact hI.size
    · intro s hs'
      rw [← hI.rest s hs']
      cases hd : o.dst with
      | none => rfl
      | some d =>
        simp only [Act.put]
        exact Array.getElem?_setIfInBounds_ne (fun e => hs' i o hik ho (by rw [hd, e]))
    · intro j oj d hjk hj hd hlj
      by_cases hij : i = j
      · subst hij
        rw [ho] at hj
        injection hj with hj
        subst hj
        refine ⟨v, ?_, hV⟩
        rw [hd]
        simp only [Act.put]
        exact Array.getElem?_setIfInBounds_self_of_lt (by rw [hI.size]; exact (regionOk_spec hok ho).2 d hd)
      · rw [getD_set_ne false hij] at hlj
        obtain ⟨u, hu, hVu⟩ := hI.vals j oj d hjk hj hd hlj
        refine ⟨u, ?_, hst j u w w' hVu hS⟩
        rw [← hu]
        cases hd' : o.dst with
        | none => rfl
        | some d' =>
          simp only [Act.put]
          exact Array.getElem?_setIfInBounds_ne (fun e => hij (dstApart_spec hap ho hj (by rw [hd', e]) hd))
/-- What an operation is handed of those that it waits for. -/
def RDeps (ops : Array Oper) (V : Nat → Value → World → Prop) (o : Oper) (t : Nat → Value) (W : World) : Prop :=
  ∀ j, (o.after.any fun e => e.on == j && Region.binds .any e) = true → ∀ d, (ops[j]?).bind (·.dst) = some d → V j (t d) W
/-- The slots with those of the mask replaced. -/
def overL (t : Nat → Value) : Nat → List Bool → List Value → List Value
  | _, [], l => l
  | _, _ :: _, [] => []
  | k, b :: m, v :: r => (bif b then t k else v) :: overL t (k + 1) m r
def over (ds : List Bool) (t : Nat → Value) (tm : Array Value) : Array Value := (overL t 0 ds tm.toList).toArray
theorem over_mk (ds : List Bool) (t : Nat → Value) (l : List Value) : over ds t l.toArray = (overL t 0 ds l).toArray := rfl
theorem overL_nil (t : Nat → Value) (k : Nat) (l : List Value) : overL t k [] l = l := rfl
theorem overL_t (t : Nat → Value) (k : Nat) (m : List Bool) (v : Value) (r : List Value) : overL t k (true :: m) (v :: r) = t k :: overL t (k + 1) m r := rfl
theorem overL_f (t : Nat → Value) (k : Nat) (m : List Bool) (v : Value) (r : List Value) : overL t k (false :: m) (v :: r) = v :: overL t (k + 1) m r := rfl
theorem overL_get (t : Nat → Value) : ∀ (m : List Bool) (l : List Value) (k i : Nat), (overL t k m l)[i]? = (l[i]?).map fun v => bif m.getD i false then t (k + i) else v
  | [], l, k, i => by
    rw [overL_nil]
    cases l[i]? <;> simp
  | b :: m, [], k, i => by simp [overL]
  | b :: m, v :: r, k, 0 => by simp [overL]
  | b :: m, v :: r, k, i + 1 => by
    rw [overL, List.getElem?_cons_succ, overL_get t m r (k + 1) i, List.getElem?_cons_succ, show k + 1 + i = k + (i + 1) from by omega]
    rfl
theorem over_get (ds : List Bool) (t : Nat → Value) (tm : Array Value) (i : Nat) : (over ds t tm)[i]? = (tm[i]?).map fun v => bif ds.getD i false then t i else v := by
  unfold over
  rw [List.getElem?_toArray, overL_get, Nat.zero_add, Array.getElem?_toList]
/-- Each operation of the region, one after the other. -/
def EachOp (R : Nat → Oper → Prop) : Nat → List Oper → Prop
  | _, [] => True
  | k, o :: r => R k o ∧ EachOp R (k + 1) r
theorem EachOp.spec {R : Nat → Oper → Prop} : ∀ (l : List Oper) (k i : Nat) (o : Oper), EachOp R k l → l[i]? = some o → R (k + i) o
  | [], k, i, o, _, h => by simp at h
  | x :: r, k, 0, o, h, hi => by
    simp only [List.getElem?_cons_zero, Option.some.injEq] at hi
    subst hi
    exact h.1
  | x :: r, k, i + 1, o, h, hi => by
    have := EachOp.spec r (k + 1) i o h.2 (by simpa using hi)
    rwa [show k + 1 + i = k + (i + 1) from by omega] at this
def dstsIn (ops : List Oper) (ds : List Bool) : Bool := ops.all fun o => match o.dst with | some d => ds.getD d false | none => true
/-- **A region that draws its order: its first k operations by what each of them keeps; what is left waits for all of them.** -/
theorem wp_region_cut {id : Nat} {tm : Array Value} {df : List Deferred} {w : World} (k : Nat) (ds : List Bool) (hm : P.follows .mixedOrders = true) (V : Nat → Value → World → Prop) (WI : World → Prop) (Step : World → World → Prop) (hok : regionOk ops tm.size = true)
    (hcut : cutOk .any ops k = true) (hkn : k ≤ ops.size) (hds : dstsIn (ops.toList.take k) ds = true) (hwi : WI w.drew) (hst : ∀ i v w w', V i v w → Step w w' → V i v w')
    (hop : EachOp (fun i o => ∀ (t : Nat → Value) (W : World), WI W → RDeps ops V o t W → ∀ K' : Act → World → Prop,
      Shut (∀ a' W' v, a' = (Act.mk (over ds t tm) df).put o.dst v → V i v W' → Step W W' → WI W' → K' a' W') →
        if Region.wanted o (yielded ops (over ds t tm)) = true then Oper.wp P o ⟨over ds t tm, df⟩ W K' Q else K' ((Act.mk (over ds t tm) df).put o.dst undef) W) 0 (ops.toList.take k))
    (m : Nat) (hm' : ops.size - k = m) (hend : ∀ (t : Nat → Value) (W : World), WI W → (∀ j, j < k → ∀ d, (ops[j]?).bind (·.dst) = some d → V j (t d) W) → wpAnyH P .any ops Q (fun _ => True) m (cutArr ops.size k) ⟨over ds t tm, df⟩ W) : (Code.region id ops true).wp P Q ⟨tm, df⟩ w := by
  subst hm'
  have hext : ∀ (i : Nat) (o : Oper), i < k → ops[i]? = some o → (ops.toList.take k)[i]? = some o := fun i o hi ho => by
    rw [List.getElem?_take, if_pos hi, Array.getElem?_toList]
    exact ho
  have hover : ∀ a : Act, a.defers = df → a.tmps.size = tm.size → (∀ s : Nat, (∀ (i : Nat) (o : Oper), i < k → ops[i]? = some o → o.dst ≠ some s) → a.tmps[s]? = tm[s]?) → a = ⟨over ds (fun s => a.tmps.getD s undef) tm, df⟩ := fun a h1 h2 h3 => by
    have : a.tmps = over ds (fun s => a.tmps.getD s undef) tm := by
      apply Array.ext_getElem?
      intro s
      rw [over_get]
      cases hc : ds.getD s false
      · have e := h3 s fun i o hik hi hd => by
          have := (List.all_eq_true.1 hds) o (List.mem_of_getElem? (hext i o hik hi))
          rw [hd] at this
          simp only at this
          rw [hc] at this
          cases this
        rw [e]
        cases tm[s]? <;> rfl
      · rcases Nat.lt_or_ge s tm.size with hl | hl
        · have hl' : s < a.tmps.size := by omega
          rw [Array.getElem?_eq_getElem hl, Array.getElem?_eq_getElem hl']
          simp [Array.getD_eq_getD_getElem?, hl']
        · rw [Array.getElem?_eq_none hl, Array.getElem?_eq_none (by omega)]
          rfl
    obtain ⟨tms, dfs⟩ := a
    simp only at h1 this
    subst h1
    rw [← this]
  have hval : ∀ (a : Act) (d : Nat) (v : Value), a.tmps[d]? = some v → a.tmps.getD d undef = v := fun a d v h => by
    rw [Array.getD_eq_getD_getElem?, h]
    rfl
  refine wp_region_any hm (wpAny_cut k V WI Step ⟨tm, df⟩ hok hcut hkn hst ?_ ?_ _ _ _ _ (by simp) (by simp) (fun j hj => ?_) (fun j _ => ?_) ⟨rfl, rfl, fun _ _ => rfl, hwi, fun i o d hik hi hd h => ?_⟩)
  · intro i o hik hi a W H
    have h0 := EachOp.spec (ops.toList.take k) 0 i o hop (hext i o hik hi)
    rw [Nat.zero_add] at h0
    have ha := hover a H.defers H.size H.rest
    have hdep : RDeps ops V o (fun s => a.tmps.getD s undef) W := fun j hj d hd => by
      obtain ⟨m, hm, hb⟩ := Array.any_eq_true.1 hj
      have he := Array.getElem_mem (xs := o.after) hm
      generalize o.after[m] = e at he hb
      simp only [Bool.and_eq_true, beq_iff_eq] at hb
      cases hoe : ops[j]? with
      | none => rw [hoe] at hd; cases hd
      | some oe =>
        rw [hoe] at hd
        obtain ⟨v, h1, h2⟩ := H.vals e he hb.2 oe d (by rw [hb.1]; exact hoe) hd
        rw [hb.1] at h2
        show V j (a.tmps.getD d undef) W
        rw [hval a d v h1]
        exact h2
    refine wpOp_step hi fun K' hK => ?_
    have h1 := h0 (fun s => a.tmps.getD s undef) W H.wi hdep K' (fun a' W' v e hV hS hW => hK a' W' ⟨v, by rw [e, ← ha], hV, hS, hW⟩)
    rw [← ha] at h1
    have e2 : over ds (fun s => a.tmps.getD s undef) tm = a.tmps := (congrArg Act.tmps ha).symm
    rw [e2] at h1
    exact h1
  · intro a W H
    have ha := hover a H.defers H.size H.rest
    rw [ha]
    refine wpAny_of_held _ _ _ _ (hend _ W H.wi fun j hj d hd => ?_)
    cases hoe : ops[j]? with
    | none => rw [hoe] at hd; cases hd
    | some oe =>
      rw [hoe] at hd
      obtain ⟨v, h1, h2⟩ := H.vals j oe d hj hoe hd (by
        unfold cutArr
        rw [Array.getD_eq_getD_getElem?, List.getElem?_toArray, List.getElem?_append_left (by simpa using hj), List.getElem?_replicate, if_pos hj]
        rfl)
      show V j (a.tmps.getD d undef) W
      rw [hval a d v h1]
      exact h2
  · have hl : j < ops.size := by
      rcases Nat.lt_or_ge j ops.size with h | h
      · exact h
      · simp [Array.getD_eq_getD_getElem?, h] at hj
    simp [hl] at hj
  · rcases Nat.lt_or_ge j ops.size with h | h
    · simp [h]
    · simp [Array.getD_eq_getD_getElem?, h]
  · have := (Array.getElem?_eq_some_iff.1 hi).1
    simp [this] at h
end
end Go.Proofs.Ytkpakpjbpmnbgaa
