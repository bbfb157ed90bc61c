/- WRITTEN BY A PROGRAM OF THIS SESSION (wip/xprint) OVER THE KIT's PRINT, FOR THIS CLAIM: for Go functions that the law reaches, one Lean function each and the proof that Go's call comes to its answer. No conditions but those that each theorem names. -/
import Derived.Test.YtpcgepealdpinaaPFnComparesx0
import Derived.Test.YtpcgepealdpinaaPFnComparesx1
import Derived.Test.YtpcgepealdpinaaPFnComparesx2
namespace Go.Proofs.Ytpcgepealdpinaa.PFnCompares
open Go.RowKit Go.Proofs.YtpcgepealdpinaaW.PrintWords Go.Proofs.YtpcgepealdpinaaW.PrintLast Go.Proofs.YtpcgepealdpinaaW.PrintMore
attribute [local go_sem] max2_int min2_int max_two min_two max_three min_three max_four min_four   -- for this text's walks alone
set_option linter.unusedVariables false
set_option linter.unusedSimpArgs false

/-! ### impl_atMost: function 20 -/
/-! ### A region that draws its order, shown for all orders at once: what an operation makes depends on what it waits for alone -/
section
variable {P : Program} {ops : Array Oper} {Q : Exit → Act → World → Prop}
/-- what is known of a value, and stays known when memory is made; B: the blocks of the region's own boxes -/
structure VP where
  p : (Nat → Prop) → World → Value → Prop
  move : ∀ B B' W W' v, Below W.heap.size W W' → (∀ k, B k → B' k) → (∀ k, B' k → B k ∨ W.heap.size ≤ k) → p B W v → p B' W' v
def VP.eq (u : Value) : VP := ⟨fun _ _ v => v = u, fun _ _ _ _ _ _ _ _ h => h⟩
def VP.any : VP := ⟨fun _ _ _ => True, fun _ _ _ _ _ _ _ _ h => h⟩
/-- some slots, filled -/
def fillA (vals : Nat → Value) : List (Option Tmp) → Act → Act
  | [], a => a
  | none :: r, a => fillA vals r a
  | some N :: r, a => fillA vals r (a.put (some N) (vals N))
theorem put_same {a : Act} {N : Tmp} {v : Value} (h : N < a.tmps.size) : (a.put (some N) v).eval (.tmp N) = v := by
  simp [Act.put, Act.eval, h]
theorem put_other {a : Act} {N M : Tmp} {v : Value} (h : M ≠ N) : (a.put (some N) v).eval (.tmp M) = a.eval (.tmp M) := by
  simp [Act.put, Act.eval, Array.getD_eq_getD_getElem?, Array.getElem?_setIfInBounds, Ne.symm h]
theorem put_size {a : Act} {N : Option Tmp} {v : Value} : (a.put N v).tmps.size = a.tmps.size := by
  cases N <;> simp [Act.put]
theorem put_defers {a : Act} {N : Option Tmp} {v : Value} : (a.put N v).defers = a.defers := by
  cases N <;> rfl
theorem fillA_size {vals : Nat → Value} : ∀ (ds : List (Option Tmp)) (a : Act), (fillA vals ds a).tmps.size = a.tmps.size
  | [], a => rfl
  | none :: r, a => fillA_size r a
  | some N :: r, a => (fillA_size r _).trans put_size
theorem fillA_defers {vals : Nat → Value} : ∀ (ds : List (Option Tmp)) (a : Act), (fillA vals ds a).defers = a.defers
  | [], a => rfl
  | none :: r, a => fillA_defers r a
  | some N :: r, a => (fillA_defers r _).trans put_defers
theorem fillA_other {vals : Nat → Value} {t : Tmp} : ∀ (ds : List (Option Tmp)) (a : Act), some t ∉ ds → (fillA vals ds a).eval (.tmp t) = a.eval (.tmp t)
  | [], a, _ => rfl
  | none :: r, a, h => fillA_other r a (fun q => h (List.mem_cons_of_mem _ q))
  | some N :: r, a, h => (fillA_other r _ (fun q => h (List.mem_cons_of_mem _ q))).trans (put_other (fun q => h (by rw [q]; exact List.mem_cons_self)))
theorem fillA_at {vals : Nat → Value} {t : Tmp} : ∀ (ds : List (Option Tmp)) (a : Act), some t ∈ ds → t < a.tmps.size → (fillA vals ds a).eval (.tmp t) = vals t
  | [], a, h, _ => by cases h
  | none :: r, a, h, hs => fillA_at r a (by rcases List.mem_cons.1 h with h | h; cases h; exact h) hs
  | some N :: r, a, h, hs => by
    by_cases hr : some t ∈ r
    · exact fillA_at r _ hr (by rw [put_size]; exact hs)
    · have : t = N := by
        rcases List.mem_cons.1 h with h | h
        · exact Option.some.inj h
        · exact absurd h hr
      subst this
      exact (fillA_other r _ hr).trans (put_same hs)
theorem fillA_o {vals : Nat → Value} {t : Tmp} {ds : List (Option Tmp)} {a : Act} {u : Value} (h : ds.contains (some t) = false) (hu : a.eval (.tmp t) = u) : (fillA vals ds a).eval (.tmp t) = u := (fillA_other ds a (fun hm => by rw [List.contains_iff_mem.2 hm] at h; cases h)).trans hu
theorem fillA_i {vals : Nat → Value} {t n : Nat} {ds : List (Option Tmp)} {a : Act} (h : ds.contains (some t) = true) (hn : a.tmps.size = n) (ht : Nat.blt t n = true) : (fillA vals ds a).eval (.tmp t) = vals t := fillA_at ds a (List.contains_iff_mem.1 h) (by rw [hn]; exact Nat.blt_eq ▸ ht)
theorem act_ext {a b : Act} (h1 : a.tmps.size = b.tmps.size) (h2 : a.defers = b.defers) (h3 : ∀ t, t < a.tmps.size → a.eval (.tmp t) = b.eval (.tmp t)) : a = b := by
  obtain ⟨x, d⟩ := a
  obtain ⟨y, e⟩ := b
  simp only at h1 h2
  subst h2
  congr 1
  refine Array.ext h1 (fun i hi hj => ?_)
  have := h3 i hi
  simpa [Act.eval, Array.getD_eq_getD_getElem?, hi, hj] using this
/-- each operation's slot is its own and lies in the frame; the last waits for all others -/
def okL (L : List (Option Tmp)) (n m : Nat) (T : Bool × List (List Nat × List Nat)) : Bool :=
  L.length == m + 1 && (L.take m).all (fun N => match N with | some t => decide (t < n) | none => false) && decide (L.take m).Nodup && (List.range m).all (fun j => ((T.2.getD m ([], [])).1).contains j) && (List.range (m + 1)).all (fun i => ((T.2.getD i ([], [])).1).all (fun j => decide (j < i)))
def Each (C : Nat → Oper → Prop) : Nat → Nat → List Oper → Prop
  | 0, _, _ => True
  | _, _, [] => True
  | f + 1, k, o :: r => C k o ∧ Each C f (k + 1) r
theorem Each.at {C : Nat → Oper → Prop} : ∀ (f k : Nat) (l : List Oper), Each C f k l → ∀ (i : Nat) (o : Oper), i < f → l[i]? = some o → C (k + i) o
  | 0, k, l, _, i, o, hi, _ => absurd hi (Nat.not_lt_zero _)
  | f + 1, k, [], _, i, o, _, h => by simp at h
  | f + 1, k, x :: r, h, 0, o, _, ho => by
    obtain rfl : x = o := by simpa using ho
    exact h.1
  | f + 1, k, x :: r, h, i + 1, o, hi, ho => by
    have := Each.at f (k + 1) r h.2 i o (by omega) (by simpa using ho)
    rwa [show k + 1 + i = k + (i + 1) by omega] at this
def StepOk (P : Program) (ops : Array Oper) (Q : Exit → Act → World → Prop) (a0 : Act) (w0 : World) (L : List (Option Tmp)) (T : Bool × List (List Nat × List Nat)) (V : List VP) (i : Nat) (o : Oper) : Prop :=
  ∀ (b : Act) (W : World) (B : Nat → Prop), Below w0.heap.size w0 W → (∀ k, B k → w0.heap.size ≤ k ∧ k < W.heap.size) → (∀ t, L.contains (some t) = false → b.eval (.tmp t) = a0.eval (.tmp t)) →
    (∀ j t, ((T.2.getD i ([], [])).1).contains j = true → L[j]? = some (some t) → (V.getD j VP.any).p B W (b.eval (.tmp t))) →
    ∀ K : Act → World → Prop, (∀ v W', (V.getD i VP.any).p B W' v → Below W.heap.size W W' → K (b.put o.dst v) W') → (∀ v W', (V.getD i VP.any).p (fun k => B k ∨ k = W.heap.size) W' v → Below W.heap.size W W' → W.heap.size < W'.heap.size → K (b.put o.dst v) W') → if Region.wanted o (yielded ops b.tmps) = true then Oper.wp P o b W K Q else K (b.put o.dst undef) W
/-- what has been made so far -/
structure AInv (a0 : Act) (w0 : World) (L : List (Option Tmp)) (m : Nat) (V : List VP) (l : Array Bool) (B : Nat → Prop) (a : Act) (w : World) : Prop where
  size : a.tmps.size = a0.tmps.size
  defers : a.defers = a0.defers
  below : Below w0.heap.size w0 w
  boxes : ∀ k, B k → w0.heap.size ≤ k ∧ k < w.heap.size
  lsize : l.size = m + 1
  last : l.getD m true = false
  other : ∀ t, (∀ i, i < m → L[i]? = some (some t) → l.getD i false = false) → a.eval (.tmp t) = a0.eval (.tmp t)
  vals : ∀ i t, i < m → L[i]? = some (some t) → l.getD i false = true → (V.getD i VP.any).p B w (a.eval (.tmp t))
theorem nodup_get {L : List (Option Tmp)} (h : L.Nodup) {i j : Nat} {x : Option Tmp} (hi : L[i]? = some x) (hj : L[j]? = some x) : i = j := by
  have hi' := (List.getElem?_eq_some_iff.1 hi)
  have hj' := (List.getElem?_eq_some_iff.1 hj)
  obtain ⟨a1, e1⟩ := hi'
  obtain ⟨b1, e2⟩ := hj'
  rw [List.nodup_iff_pairwise_ne, List.pairwise_iff_getElem] at h
  rcases Nat.lt_trichotomy i j with q | q | q
  · exact absurd (e1.trans e2.symm) (h i j a1 b1 q)
  · exact q
  · exact absurd (e2.trans e1.symm) (h j i b1 a1 q)
theorem countP_lt {p q : Nat → Bool} : ∀ (L : List Nat), (∀ x ∈ L, q x = true → p x = true) → (∃ x ∈ L, p x = true ∧ q x = false) → L.countP q < L.countP p
  | [], _, h => by obtain ⟨x, hx, _⟩ := h; cases hx
  | y :: r, h1, h2 => by
    have hle : ∀ (M : List Nat), (∀ x ∈ M, q x = true → p x = true) → M.countP q ≤ M.countP p := fun M hM => List.countP_mono_left hM
    rw [List.countP_cons, List.countP_cons]
    obtain ⟨x, hx, hp, hq⟩ := h2
    rcases List.mem_cons.1 hx with rfl | hx
    · rw [hp, hq]
      have := hle r (fun x hx => h1 x (List.mem_cons_of_mem _ hx))
      simp
      omega
    · have := countP_lt r (fun x hx => h1 x (List.mem_cons_of_mem _ hx)) ⟨x, hx, hp, hq⟩
      have h3 : (if q y = true then 1 else 0) ≤ (if p y = true then 1 else 0) := by
        by_cases hy : q y = true
        · rw [if_pos hy, if_pos (h1 y List.mem_cons_self hy)]
          exact Nat.le_refl _
        · rw [if_neg hy]
          exact Nat.zero_le _
      omega
theorem any_region {id : Nat} {a0 : Act} {w : World} {T : Bool × List (List Nat × List Nat)} {oL : Oper} (L : List (Option Tmp)) (n m : Nat) (V : List VP) (hm : P.follows .mixedOrders = true) (hT : rtab .any ops = T) (hL : ops.toList.map (·.dst) = L) (hn : a0.tmps.size = n) (hc : okL L n m T = true) (hoL : ops[m]? = some oL)
    (step : Each (StepOk P ops Q a0 w.drew L T V) m 0 ops.toList)
    (last : ∀ (vals : Nat → Value) (F : Act) (W : World) (B : Nat → Prop), F = fillA vals (L.take m) a0 → Below w.drew.heap.size w.drew W → (∀ k, B k → w.drew.heap.size ≤ k ∧ k < W.heap.size) → (∀ i t, i < m → L[i]? = some (some t) → (V.getD i VP.any).p B W (vals t)) → ∀ K : Act → World → Prop, (∀ a' W', Q .normal a' W' → K a' W') → if Region.wanted oL (yielded ops F.tmps) = true then Oper.wp P oL F W K Q else K (F.put oL.dst undef) W) :
    (Code.region id ops true).wp P Q a0 w := by
  simp only [okL, Bool.and_eq_true, beq_iff_eq, decide_eq_true_eq] at hc
  obtain ⟨⟨⟨⟨c1, c2⟩, c3⟩, c4⟩, c5⟩ := hc
  have hsz : ops.size = m + 1 := by rw [← c1, ← hL]; simp
  have hdst : ∀ (i : Nat) (o : Oper), ops[i]? = some o → L[i]? = some o.dst := by
    intro i o ho
    rw [← hL, List.getElem?_map, Array.getElem?_toList, ho]
    rfl
  have hneeds : ∀ (i : Nat) (o : Oper), ops[i]? = some o → (T.2.getD i ([], [])).1 = needsOf .any o := by
    intro i o ho
    rw [← hT, List.getD_eq_getElem?_getD, rtab_some ho]
    rfl
  have hneed : ∀ (i : Nat) (o : Oper) (l : Array Bool), ops[i]? = some o → (∀ e ∈ o.after, Region.binds .any e = true → l.getD e.on false = true) → ∀ j, ((T.2.getD i ([], [])).1).contains j = true → l.getD j false = true := by
    intro i o l ho hall j hj
    rw [hneeds i o ho] at hj
    unfold needsOf at hj
    rw [List.contains_iff_mem, List.mem_map] at hj
    obtain ⟨e, he, rfl⟩ := hj
    rw [List.mem_filter] at he
    exact hall e (by simpa using he.1) he.2
  have hback : ∀ (i : Nat) (o : Oper) (l : Array Bool), ops[i]? = some o → (∀ j, ((T.2.getD i ([], [])).1).contains j = true → l.getD j false = true) → l.getD i true = false → i ∈ Region.ready .any ops l := by
    intro i o l ho h hl
    refine mem_ready.2 ⟨hl, o, ho, fun e he hb => ?_⟩
    refine h e.on ?_
    rw [hneeds i o ho, List.contains_iff_mem]
    unfold needsOf
    rw [List.mem_map]
    exact ⟨e, by rw [List.mem_filter]; exact ⟨by simpa using he, hb⟩, rfl⟩
  have hlt : ∀ (i : Nat) (t : Tmp), i < m → L[i]? = some (some t) → t < n := by
    intro i t hi ht
    have := List.all_eq_true.1 c2 (some t) (List.mem_of_getElem? (i := i) (by rw [List.getElem?_take_of_lt hi]; exact ht))
    simpa using this
  have huniq : ∀ (i j : Nat) (t : Tmp), i < m → j < m → L[i]? = some (some t) → L[j]? = some (some t) → i = j := by
    intro i j t hi hj h1 h2
    exact nodup_get c3 (by rw [List.getElem?_take_of_lt hi]; exact h1) (by rw [List.getElem?_take_of_lt hj]; exact h2)
  have hfirst : ∀ (l : Array Bool), l.size = m + 1 → l.getD m true = false → Region.ready .any ops l ≠ [] := by
    intro l hls hl hr
    -- the first that is not listed is ready
    have ex : ∃ i, i < m + 1 ∧ l.getD i true = false := ⟨m, by omega, hl⟩
    have fst : ∀ (d i : Nat), d = i → (i < m + 1 ∧ l.getD i true = false) → ∃ i0, i0 < m + 1 ∧ l.getD i0 true = false ∧ ∀ j, j < i0 → l.getD j false = true := by
      intro d
      induction d using Nat.strongRecOn with
      | _ d ih =>
        intro i hd hi
        by_cases h : ∀ j, j < i → l.getD j false = true
        · exact ⟨i, hi.1, hi.2, h⟩
        · simp only [Classical.not_forall] at h
          obtain ⟨j, hj, hjl⟩ := h
          refine ih j (by omega) j rfl ⟨by omega, ?_⟩
          have : j < l.size := by omega
          simp only [Array.getD_eq_getD_getElem?, Array.getElem?_eq_getElem this, Option.getD_some] at hjl ⊢
          simpa using hjl
    obtain ⟨i0, h1, h2, h3⟩ := fst m m rfl ⟨by omega, hl⟩
    have ho : ops[i0]? = some (ops[i0]'(by omega)) := Array.getElem?_eq_getElem (by omega)
    have := hback i0 _ l ho (fun j hj => h3 j (by
      have := List.all_eq_true.1 c5 i0 (List.mem_range.2 h1)
      have := List.all_eq_true.1 this j (List.contains_iff_mem.1 hj)
      simpa using this)) h2
    rw [hr] at this
    cases this
  refine wp_region_any hm ?_
  have key : ∀ (fuel : Nat) (l : Array Bool) (B : Nat → Prop) (a : Act) (W : World), AInv a0 w.drew L m V l B a W → (List.range (m + 1)).countP (fun i => !l.getD i true) ≤ fuel → wpAny P .any ops Q fuel l a W := by
    intro fuel
    induction fuel with
    | zero =>
      intro l B a W inv hf
      have h0 : (List.range (m + 1)).countP (fun i => !l.getD i true) = 0 := by omega
      rw [List.countP_eq_zero] at h0
      exact absurd (by rw [inv.last]; rfl) (h0 m (by simp))
    | succ fuel ih =>
      intro l B a W inv hf
      refine ⟨fun hr => absurd hr (hfirst l inv.lsize inv.last), fun i hi => ?_⟩
      obtain ⟨h1, o, ho, h2'⟩ := mem_ready.1 hi
      have h2 := hneed i o l ho h2'
      have him : i < m + 1 := by rw [← hsz]; exact (Array.getElem?_eq_some_iff.1 ho).1
      unfold wpOp
      rw [ho]
      simp only
      have hset : ∀ j, j ≠ i → ∀ b, (l.setIfInBounds i true).getD j b = l.getD j b := by
        intro j hj b
        simp [Array.getD_eq_getD_getElem?, Array.getElem?_setIfInBounds, Ne.symm hj]
      have hset1 : ∀ b, (l.setIfInBounds i true).getD i b = true := by
        intro b
        have : i < l.size := by rw [inv.lsize]; exact him
        simp [Array.getD_eq_getD_getElem?, Array.getElem?_setIfInBounds, this]
      by_cases hlast : i = m
      · subst hlast
        have hall : ∀ j, j < i → l.getD j false = true := by
          intro j hj
          exact h2 j (List.all_eq_true.1 c4 j (List.mem_range.2 hj))
        have hfill : a = fillA (fun t => a.eval (.tmp t)) (L.take i) a0 := by
          refine act_ext ?_ ?_ (fun t ht => ?_)
          · rw [fillA_size, inv.size]
          · rw [fillA_defers, inv.defers]
          · by_cases hmem : some t ∈ L.take i
            · rw [fillA_at _ _ hmem (by rw [← inv.size]; exact ht)]
            · rw [fillA_other _ _ hmem]
              refine inv.other t (fun j hj hjt => ?_)
              exact absurd (List.mem_of_getElem? (i := j) (by rw [List.getElem?_take_of_lt hj]; exact hjt)) hmem
        have hdone : Region.ready .any ops (l.setIfInBounds i true) = [] := by
          rw [List.eq_nil_iff_forall_not_mem]
          intro j hj
          obtain ⟨q1, oj, hoj, _⟩ := mem_ready.1 hj
          have hjm : j < i + 1 := by rw [← hsz]; exact (Array.getElem?_eq_some_iff.1 hoj).1
          by_cases hji : j = i
          · subst hji; rw [hset1] at q1; cases q1
          · rw [hset j hji] at q1
            have q2 := hall j (by omega)
            have : j < l.size := by rw [inv.lsize]; omega
            simp only [Array.getD_eq_getD_getElem?, Array.getElem?_eq_getElem this, Option.getD_some] at q1 q2
            rw [q1] at q2
            cases q2
        obtain rfl : oL = o := Option.some.inj (hoL.symm.trans ho)
        have hl := last (fun t => a.eval (.tmp t)) a W B hfill inv.below inv.boxes (fun j t hj hjt => inv.vals j t hj hjt (hall j hj)) (wpAny P .any ops Q fuel (l.setIfInBounds i true)) (fun a' W' h => wpAny_done hdone h fuel)
        by_cases hw : Region.wanted oL (yielded ops a.tmps) = true
        · rw [if_pos hw] at hl ⊢
          exact .inl hl
        · rw [if_neg hw] at hl ⊢
          exact hl
      · have him2 : i < m := by omega
        have hst := Each.at m 0 ops.toList step i o him2 (by rw [Array.getElem?_toList]; exact ho)
        rw [Nat.zero_add] at hst
        have hgo : ∀ (B' : Nat → Prop) v W', (V.getD i VP.any).p B' W' v → Below W.heap.size W W' → (∀ k, B k → B' k) → (∀ k, B' k → B k ∨ W.heap.size ≤ k) → (∀ k, B' k → w.drew.heap.size ≤ k ∧ k < W'.heap.size) → wpAny P .any ops Q fuel (l.setIfInBounds i true) (a.put o.dst v) W' := by
          intro B' v W' hv hb hB0 hB1 hB2
          refine ih _ B' _ _ ⟨?_, ?_, ?_, hB2, ?_, ?_, ?_, ?_⟩ ?_
          · rw [put_size]; exact inv.size
          · rw [put_defers]; exact inv.defers
          · exact inv.below.trans (hb.mono inv.below.size)
          · rw [Array.size_setIfInBounds]; exact inv.lsize
          · rw [hset m (by omega)]; exact inv.last
          · intro t ht
            have hne : ∀ N, o.dst = some N → t ≠ N := by
              intro N hN htN
              subst htN
              have := ht i him2 (by rw [hdst i o ho, hN])
              rw [hset1] at this
              cases this
            rw [show (a.put o.dst v).eval (.tmp t) = a.eval (.tmp t) from by
              cases hN : o.dst with
              | none => rfl
              | some N => exact put_other (hne N hN)]
            refine inv.other t (fun j hj hjt => ?_)
            have := ht j hj hjt
            by_cases hji : j = i
            · subst hji
              rw [hset1] at this
              cases this
            · rw [hset j hji] at this
              exact this
          · intro j t hj hjt hjl
            by_cases hji : j = i
            · subst hji
              have hN : o.dst = some t := by
                have := hdst j o ho
                rw [hjt] at this
                exact (Option.some.inj this).symm
              rw [hN, put_same (by rw [inv.size, hn]; exact hlt j t hj hjt)]
              exact hv
            · rw [hset j hji] at hjl
              have hne : ∀ N, o.dst = some N → t ≠ N := by
                intro N hN htN
                subst htN
                exact hji (huniq j i t hj him2 hjt (by rw [hdst i o ho, hN]))
              rw [show (a.put o.dst v).eval (.tmp t) = a.eval (.tmp t) from by
                cases hN : o.dst with
                | none => rfl
                | some N => exact put_other (hne N hN)]
              exact (V.getD j VP.any).move B B' _ _ _ hb hB0 hB1 (inv.vals j t hj hjt hjl)
          · have := countP_lt (p := fun j => !l.getD j true) (q := fun j => !(l.setIfInBounds i true).getD j true) (List.range (m + 1)) (fun j _ hq => by
              by_cases hji : j = i
              · subst hji
                rw [hset1] at hq
                cases hq
              · rwa [hset j hji] at hq) ⟨i, List.mem_range.2 him, by rw [h1]; rfl, by rw [hset1]; rfl⟩
            omega
        have hst2 := hst a W B inv.below inv.boxes (fun t ht => inv.other t (fun j hj hjt => absurd (List.contains_iff_mem.2 (List.mem_of_getElem? hjt)) (by rw [ht]; simp)))
          (fun j t hj hjt => by
            have hjm : j < m := by
              have := List.all_eq_true.1 c5 i (List.mem_range.2 him)
              have := List.all_eq_true.1 this j (List.contains_iff_mem.1 hj)
              simp only [decide_eq_true_eq] at this
              omega
            exact inv.vals j t hjm hjt (h2 j hj)) (wpAny P .any ops Q fuel (l.setIfInBounds i true))
          (fun v W' hv hb => hgo B v W' hv hb (fun k hk => hk) (fun k hk => .inl hk) (fun k hk => ⟨(inv.boxes k hk).1, Nat.lt_of_lt_of_le (inv.boxes k hk).2 hb.size⟩))
          (fun v W' hv hb hlt2 => hgo _ v W' hv hb (fun k hk => .inl hk) (fun k hk => hk.elim .inl (fun h => .inr (Nat.le_of_eq h.symm))) (fun k hk => hk.elim (fun hk => ⟨(inv.boxes k hk).1, Nat.lt_of_lt_of_le (inv.boxes k hk).2 hb.size⟩) (fun h => by rw [h]; exact ⟨inv.below.size, hlt2⟩)))
        by_cases hw : Region.wanted o (yielded ops a.tmps) = true
        · rw [if_pos hw] at hst2 ⊢
          exact .inl hst2
        · rw [if_neg hw] at hst2 ⊢
          exact hst2
  refine key ops.size _ (fun _ => False) a0 w.drew ⟨rfl, rfl, Below.refl _ _, fun _ hk => hk.elim, by rw [Array.size_replicate, hsz], ?_, fun _ _ => rfl, fun i t hi hit hl => ?_⟩ ?_
  · simp [Array.getD_eq_getD_getElem?, hsz]
  · simp only [Array.getD_eq_getD_getElem?] at hl
    rw [Array.getElem?_eq_getElem (by rw [Array.size_replicate]; omega)] at hl
    simp at hl
  · rw [hsz]
    exact Nat.le_trans List.countP_le_length (by simp)
end
/-! ### expressions as values, wherever they lie -/
def EXv (ok : Nat → Prop) (W : World) (v : Value) (x : S27) : Prop := ∃ A c, v = .agg #[.int .i64 x.f0, .int .i64 x.f1, .slice A x.f2.length c] ∧ x.f2.length ≤ c ∧ Kd.F k27 W ok A x.f2.length x.f2
def EXs (ok : Nat → Prop) (W : World) (v : Value) (xs : List S27) : Prop := ∃ A c, v = .slice A xs.length c ∧ xs.length ≤ c ∧ Kd.F k27 W ok A xs.length xs
theorem EXv.move {ok : Nat → Prop} {W W1 : World} {v : Value} {x : S27} (h : EXv ok W v x) (hb : Below W.heap.size W W1) : EXv ok W1 v x := by
  obtain ⟨A, c, e, hl, hF⟩ := h
  exact ⟨A, c, e, hl, Kd.F_below hF hb⟩
theorem EXs.move {ok : Nat → Prop} {W W1 : World} {v : Value} {xs : List S27} (h : EXs ok W v xs) (hb : Below W.heap.size W W1) : EXs ok W1 v xs := by
  obtain ⟨A, c, e, hl, hF⟩ := h
  exact ⟨A, c, e, hl, Kd.F_below hF hb⟩
theorem EXv.mono {ok ok' : Nat → Prop} {W : World} {v : Value} {x : S27} (h : EXv ok W v x) (hk : ∀ k, ok k → ok' k) : EXv ok' W v x := by
  obtain ⟨A, c, e, hl, hF⟩ := h
  exact ⟨A, c, e, hl, Kd.F_mono hF hk⟩
theorem EXs.mono {ok ok' : Nat → Prop} {W : World} {v : Value} {xs : List S27} (h : EXs ok W v xs) (hk : ∀ k, ok k → ok' k) : EXs ok' W v xs := by
  obtain ⟨A, c, e, hl, hF⟩ := h
  exact ⟨A, c, e, hl, Kd.F_mono hF hk⟩
theorem EXs.V {ok : Nat → Prop} {W : World} {v : Value} {xs : List S27} {b : Nat} (h : EXs ok W v xs) : Kd.V k27 27 W b ok v xs := h
theorem EXs.of {ok : Nat → Prop} {W : World} {v : Value} {xs : List S27} {b : Nat} (h : Kd.V k27 27 W b ok v xs) : EXs ok W v xs := h
theorem EXv.of {ok : Nat → Prop} {W : World} {v2 : Value} {f0 f1 : Int} {f2 : List S27} {b : Nat} (h : Kd.V k27 27 W b ok v2 f2) : EXv ok W (.agg #[.int .i64 f0, .int .i64 f1, v2]) ⟨f0, f1, f2⟩ := by
  obtain ⟨A, c, rfl, hl, hF⟩ := h
  exact ⟨A, c, rfl, hl, hF⟩
/-- an element of a row -/
theorem EXs.at {ok : Nat → Prop} {W : World} {v : Value} {xs : List S27} (h : EXs ok W v xs) (i : Nat) (hi : i < xs.length) : ∃ ad c A2 c2, v = .slice (some ad) xs.length c ∧ W.cell? (ad.add (i * 3)) = some (.int .i64 xs[i].f0) ∧ W.cell? ⟨(ad.add (i * 3)).block, (ad.add (i * 3)).off + 1, none⟩ = some (.int .i64 xs[i].f1) ∧ W.cell? ⟨(ad.add (i * 3)).block, (ad.add (i * 3)).off + 2, none⟩ = some (.slice A2 xs[i].f2.length c2) ∧ EXv ok W (.agg #[.int .i64 xs[i].f0, .int .i64 xs[i].f1, .slice A2 xs[i].f2.length c2]) xs[i] := by
  obtain ⟨A, c, rfl, hl, hF⟩ := h
  obtain ⟨ad, cs, he, hcl, hK, hcc, _⟩ := Kd.F_get hF z27 (i : Int) (by omega) (by omega)
  subst he
  obtain ⟨A2, c2, rfl, l2, g2⟩ := k27_openF hK
  have e : xs.getD i z27 = xs[i] := by simp [List.getD, hi]
  rw [Int.toNat_natCast] at hcc l2 g2
  have e0 := hcc 0 _ rfl
  have e1 := hcc 1 _ rfl
  have e2 := hcc 2 _ rfl
  have k3 : (k27).sz = 3 := rfl
  rw [k3] at e0 e1 e2
  rw [show i * 3 + 0 = i * 3 from rfl] at e0
  rw [add_field _ _ 1 (by omega)] at e1
  rw [add_field _ _ 2 (by omega)] at e2
  rw [e] at e0 e1 e2 l2 g2
  exact ⟨ad, c, A2, c2, rfl, e0, e1, e2, A2, c2, rfl, l2, g2⟩
theorem fresh_ {ok B : Nat → Prop} {w0 W : World} (h : ∀ k, w0.heap.size ≤ k → ok k) (hW : Below w0.heap.size w0 W) (hB : ∀ k, B k → w0.heap.size ≤ k ∧ k < W.heap.size) : ∀ k, W.heap.size ≤ k → ok k ∧ ¬ B k :=
  fun k hk => ⟨h k (Nat.le_trans hW.size hk), fun hb => Nat.lt_irrefl _ (Nat.lt_of_lt_of_le (hB k hb).2 hk)⟩
theorem EXv.old {ok B : Nat → Prop} {w0 W : World} {v : Value} {x : S27} (h : EXv ok w0 v x) (hW : Below w0.heap.size w0 W) (hB : ∀ k, B k → w0.heap.size ≤ k ∧ k < W.heap.size) : EXv (fun k => ok k ∧ ¬ B k) W v x := by
  obtain ⟨A, c, e, hl, hF⟩ := h
  exact ⟨A, c, e, hl, Kd.F_below (Kd.F_mono (Kd.F_bound hF) (fun k hk => ⟨hk.1, fun hb => Nat.lt_irrefl _ (Nat.lt_of_lt_of_le hk.2 (hB k hb).1)⟩)) hW⟩
theorem EXs.old {ok B : Nat → Prop} {w0 W : World} {v : Value} {xs : List S27} (h : EXs ok w0 v xs) (hW : Below w0.heap.size w0 W) (hB : ∀ k, B k → w0.heap.size ≤ k ∧ k < W.heap.size) : EXs (fun k => ok k ∧ ¬ B k) W v xs := by
  obtain ⟨A, c, e, hl, hF⟩ := h
  exact ⟨A, c, e, hl, Kd.F_below (Kd.F_mono (Kd.F_bound hF) (fun k hk => ⟨hk.1, fun hb => Nat.lt_irrefl _ (Nat.lt_of_lt_of_le hk.2 (hB k hb).1)⟩)) hW⟩
theorem fp_move {ok B B' : Nat → Prop} {n : Nat} (hB : ∀ k, B' k → B k ∨ n ≤ k) : ∀ k, (ok k ∧ ¬ B k) ∧ k < n → ok k ∧ ¬ B' k :=
  fun k hk => ⟨hk.1.1, fun h => (hB k h).elim hk.1.2 (fun h2 => Nat.lt_irrefl _ (Nat.lt_of_lt_of_le hk.2 h2))⟩
def VP.ex (ok : Nat → Prop) (x : S27) : VP := ⟨fun B W v => EXv (fun k => ok k ∧ ¬ B k) W v x, fun B B' W W' v hb _ hB h => by
  obtain ⟨A, c, e, hl, hF⟩ := h
  exact ⟨A, c, e, hl, Kd.F_below (Kd.F_mono (Kd.F_bound hF) (fp_move hB)) hb⟩⟩
def VP.exs (ok : Nat → Prop) (xs : List S27) : VP := ⟨fun B W v => EXs (fun k => ok k ∧ ¬ B k) W v xs, fun B B' W W' v hb _ hB h => by
  obtain ⟨A, c, e, hl, hF⟩ := h
  exact ⟨A, c, e, hl, Kd.F_below (Kd.F_mono (Kd.F_bound hF) (fp_move hB)) hb⟩⟩
def VP.box (n : Nat) (cs : Array Value) (ty : TypeId) : VP := ⟨fun B W v => ∃ g, v = .pointer (some ⟨g, 0, none⟩) ∧ n ≤ g ∧ B g ∧ W.heap[g]? = some (.cells cs ty (0, 0)), fun B B' W W' v hb h1 _ h => by
  obtain ⟨g, e, hn, hB, hg⟩ := h
  exact ⟨g, e, hn, h1 g hB, blk_below hg hb⟩⟩
/-- only block g has been written -/
structure Wr (g : Nat) (W W1 : World) : Prop where
  kept : Kept W W1 (fun k => k = g)
  below : ∀ (w0 : World), Below w0.heap.size w0 W → w0.heap.size ≤ g → Below w0.heap.size w0 W1
theorem Wr.set (W : World) (g i : Nat) (u : Value) : Wr g W (W.setCell ⟨g, i, none⟩ u) := ⟨Kept.setCell (S := fun k => k = g) (p := ⟨g, i, none⟩) (Kept.refl W _) (.inl rfl) u, fun _ hb hn => below_set hb hn⟩
theorem Wr.trans {g : Nat} {W W1 W2 : World} (h : Wr g W W1) (k : Wr g W1 W2) : Wr g W W2 := ⟨h.kept.then_ k.kept (fun _ hk => .inl hk), fun w0 hb hn => k.below w0 (h.below w0 hb hn) hn⟩
theorem EXv.kept {ok S : Nat → Prop} {W W1 : World} {v : Value} {x : S27} (h : EXv ok W v x) (hk : Kept W W1 S) (hn : ∀ k, ok k → ¬ S k) : EXv ok W1 v x := by
  obtain ⟨A, c, e, hl, hF⟩ := h
  exact ⟨A, c, e, hl, Kd.F_kept hF hk hn⟩
theorem EXs.kept {ok S : Nat → Prop} {W W1 : World} {v : Value} {xs : List S27} (h : EXs ok W v xs) (hk : Kept W W1 S) (hn : ∀ k, ok k → ¬ S k) : EXs ok W1 v xs := by
  obtain ⟨A, c, e, hl, hF⟩ := h
  exact ⟨A, c, e, hl, Kd.F_kept hF hk hn⟩
theorem box_put3 {W : World} {g : Nat} {u0 u1 u2 a b v : Value} (hb : W.heap[g]? = some (.cells #[u0, u1, u2] 27 (0, 0))) : (((W.setCell ⟨g, 0, none⟩ a).setCell ⟨g, 1, none⟩ b).setCell ⟨g, 2, none⟩ v).heap[g]? = some (.cells #[a, b, v] 27 (0, 0)) ∧ Wr g W (((W.setCell ⟨g, 0, none⟩ a).setCell ⟨g, 1, none⟩ b).setCell ⟨g, 2, none⟩ v) :=
  ⟨blk_put (cs := #[a, b, u2]) (blk_put (cs := #[a, u1, u2]) (blk_put hb 0 a rfl) 1 b rfl) 2 v rfl, ((Wr.set W g 0 _).trans (Wr.set _ g 1 _)).trans (Wr.set _ g 2 _)⟩
section
variable {ops : Array Oper} {Q : Exit → Act → World → Prop} {o : Oper} {b : Act} {W : World} {K : Act → World → Prop} {s s1 s2 s3 : Tmp}
theorem mv_step {u : Value} (hg : o.guard = none) (ho : o.op = .move (.tmp s)) (hu : b.eval (.tmp s) = u) (hK : K (b.put o.dst u) W) :
    if Region.wanted o (yielded ops b.tmps) = true then Oper.wp Try.prog o b W K Q else K (b.put o.dst undef) W := by
  refine value_ (by unfold Region.wanted; rw [hg]) rfl (v := u) (w1 := W) ?_ hK
  unfold execOp
  rw [ho]
  simp only [hu]
  rfl
theorem al_step (hg : o.guard = none) (ho : o.op = .alloc 27) (hK : ∀ W', (∃ g, Value.pointer (some ⟨W.heap.size, 0, none⟩) = .pointer (some ⟨g, 0, none⟩) ∧ W.heap.size ≤ g ∧ g = W.heap.size ∧ W'.heap[g]? = some (.cells #[.int .i64 0, .int .i64 0, .slice none 0 0] 27 (0, 0))) → Below W.heap.size W W' → W.heap.size < W'.heap.size → K (b.put o.dst (.pointer (some ⟨W.heap.size, 0, none⟩))) W') :
    if Region.wanted o (yielded ops b.tmps) = true then Oper.wp Try.prog o b W K Q else K (b.put o.dst undef) W := by
  have hnew := blk_new W (.cells #[.int .i64 0, .int .i64 0, .slice none 0 0] 27)
  refine value_ (by unfold Region.wanted; rw [hg]) rfl (v := .pointer (some ⟨W.heap.size, 0, none⟩)) (w1 := W.alloc (.cells #[.int .i64 0, .int .i64 0, .slice none 0 0] 27)) ?_ (hK _ ⟨_, rfl, Nat.le_refl _, rfl, hnew⟩ (below_alloc (Below.refl _ _) _) (blk_lt hnew))
  have hu27 := Try.underlying27
  unfold execOp
  rw [ho]
  go_simp
theorem ix_step {ad : Addr} {n c i : Nat} (hg : o.guard = none) (ho : o.op = .indexAddr 24 (.tmp s) (.tmp s2)) (hu : b.eval (.tmp s) = .slice (some ad) n c) (hi : b.eval (.tmp s2) = .int .i64 i) (h : i < n) (hn : n ≤ 9223372036854775807) (hK : K (b.put o.dst (.pointer (some (ad.add (i * 3))))) W) :
    if Region.wanted o (yielded ops b.tmps) = true then Oper.wp Try.prog o b W K Q else K (b.put o.dst undef) W := by
  refine value_ (by unfold Region.wanted; rw [hg]) rfl (v := .pointer (some (ad.add (i * 3)))) (w1 := W) ?_ hK
  have h0 : (0 : Int) ≤ (i : Int) := by omega
  have h1 : (i : Int) < (n : Int) := by omega
  unfold execOp
  rw [ho]
  simp only [hu, hi]
  go_simp
theorem ld_step {ad : Addr} {f0 f1 : Int} {v2 : Value} (hg : o.guard = none) (ho : o.op = .load 27 (.tmp s)) (hu : b.eval (.tmp s) = .pointer (some ad)) (h0 : W.cell? ad = some (.int .i64 f0)) (h1 : W.cell? ⟨ad.block, ad.off + 1, none⟩ = some (.int .i64 f1)) (h2 : W.cell? ⟨ad.block, ad.off + 2, none⟩ = some v2) (hK : K (b.put o.dst (.agg #[.int .i64 f0, .int .i64 f1, v2])) W) :
    if Region.wanted o (yielded ops b.tmps) = true then Oper.wp Try.prog o b W K Q else K (b.put o.dst undef) W := by
  refine value_ (by unfold Region.wanted; rw [hg]) rfl (v := .agg #[.int .i64 f0, .int .i64 f1, v2]) (w1 := W) ?_ hK
  have hu27 := Try.underlying27
  unfold execOp
  rw [ho]
  simp only [hu]
  go_simp
theorem tm_eval {b : Act} {t : Tmp} {v : Value} (h : b.eval (.tmp t) = v) : b.tmps[t]?.getD undef = v := by
  rw [← h]
  simp [Act.eval]
theorem bs1_step {N : Tmp} {ok : Nat → Prop} {x : S27} (hd : o.dst = some N) (hg : o.guard = none) (ho : o.op = .buildSlice 24 1 #[(0, .tmp s1)]) (h1 : EXv ok W (b.eval (.tmp s1)) x) (hok : ok W.heap.size)
    (hK : ∀ v W', EXs ok W' v [x] → Below W.heap.size W W' → K (b.put o.dst v) W') :
    if Region.wanted o (yielded ops b.tmps) = true then Oper.wp Try.prog o b W K Q else K (b.put o.dst undef) W := by
  obtain ⟨A1, c1, e1, l1, F1⟩ := h1
  replace e1 := tm_eval e1
  refine Kd.N_lit_step (P := Try.prog) (ops := ops) (Q := Q) (Kc := K) (a := b) (o := o) k27 (w0 := W) W.heap.size 27 (by unfold Region.wanted; rw [hg]) hd (xs := [x]) (inner := [.int .i64 x.f0, .int .i64 x.f1, .slice A1 x.f2.length c1]) (ok := ok) (okp := ok) ?hr ?hp (fun _ hk => hk) hok (Below.refl _ _) (Nat.le_refl _) (by simp) ?_
  · unfold execOp
    rw [ho]
    have hu24 := Try.underlying24
    have hu27 := Try.underlying27
    go_simp
  · exact (Reps.c3 (k27_mkF _ _ x l1 F1) (Reps.none _ _))
  · intro v W' hN hb _ _
    exact hK v W' (EXs.of (b := 0) (Kd.N_V hN)) hb
theorem bs2_step {N : Tmp} {ok : Nat → Prop} {x y : S27} (hd : o.dst = some N) (hg : o.guard = none) (ho : o.op = .buildSlice 24 2 #[(0, .tmp s1), (1, .tmp s2)]) (h1 : EXv ok W (b.eval (.tmp s1)) x) (h2 : EXv ok W (b.eval (.tmp s2)) y) (hok : ok W.heap.size)
    (hK : ∀ v W', EXs ok W' v [x, y] → Below W.heap.size W W' → K (b.put o.dst v) W') :
    if Region.wanted o (yielded ops b.tmps) = true then Oper.wp Try.prog o b W K Q else K (b.put o.dst undef) W := by
  obtain ⟨A1, c1, e1, l1, F1⟩ := h1
  replace e1 := tm_eval e1
  obtain ⟨A2, c2, e2, l2, F2⟩ := h2
  replace e2 := tm_eval e2
  refine Kd.N_lit_step (P := Try.prog) (ops := ops) (Q := Q) (Kc := K) (a := b) (o := o) k27 (w0 := W) W.heap.size 27 (by unfold Region.wanted; rw [hg]) hd (xs := [x, y]) (inner := [.int .i64 x.f0, .int .i64 x.f1, .slice A1 x.f2.length c1, .int .i64 y.f0, .int .i64 y.f1, .slice A2 y.f2.length c2]) (ok := ok) (okp := ok) ?hr ?hp (fun _ hk => hk) hok (Below.refl _ _) (Nat.le_refl _) (by simp) ?_
  · unfold execOp
    rw [ho]
    have hu24 := Try.underlying24
    have hu27 := Try.underlying27
    go_simp
  · exact (Reps.c3 (k27_mkF _ _ x l1 F1) (Reps.c3 (k27_mkF _ _ y l2 F2) (Reps.none _ _)))
  · intro v W' hN hb _ _
    exact hK v W' (EXs.of (b := 0) (Kd.N_V hN)) hb
theorem bs3_step {N : Tmp} {ok : Nat → Prop} {x y z : S27} (hd : o.dst = some N) (hg : o.guard = none) (ho : o.op = .buildSlice 24 3 #[(0, .tmp s1), (1, .tmp s2), (2, .tmp s3)]) (h1 : EXv ok W (b.eval (.tmp s1)) x) (h2 : EXv ok W (b.eval (.tmp s2)) y) (h3 : EXv ok W (b.eval (.tmp s3)) z) (hok : ok W.heap.size)
    (hK : ∀ v W', EXs ok W' v [x, y, z] → Below W.heap.size W W' → K (b.put o.dst v) W') :
    if Region.wanted o (yielded ops b.tmps) = true then Oper.wp Try.prog o b W K Q else K (b.put o.dst undef) W := by
  obtain ⟨A1, c1, e1, l1, F1⟩ := h1
  replace e1 := tm_eval e1
  obtain ⟨A2, c2, e2, l2, F2⟩ := h2
  replace e2 := tm_eval e2
  obtain ⟨A3, c3, e3, l3, F3⟩ := h3
  replace e3 := tm_eval e3
  refine Kd.N_lit_step (P := Try.prog) (ops := ops) (Q := Q) (Kc := K) (a := b) (o := o) k27 (w0 := W) W.heap.size 27 (by unfold Region.wanted; rw [hg]) hd (xs := [x, y, z]) (inner := [.int .i64 x.f0, .int .i64 x.f1, .slice A1 x.f2.length c1, .int .i64 y.f0, .int .i64 y.f1, .slice A2 y.f2.length c2, .int .i64 z.f0, .int .i64 z.f1, .slice A3 z.f2.length c3]) (ok := ok) (okp := ok) ?hr ?hp (fun _ hk => hk) hok (Below.refl _ _) (Nat.le_refl _) (by simp) ?_
  · unfold execOp
    rw [ho]
    have hu24 := Try.underlying24
    have hu27 := Try.underlying27
    go_simp
  · exact (Reps.c3 (k27_mkF _ _ x l1 F1) (Reps.c3 (k27_mkF _ _ y l2 F2) (Reps.c3 (k27_mkF _ _ z l3 F3) (Reps.none _ _))))
  · intro v W' hN hb _ _
    exact hK v W' (EXs.of (b := 0) (Kd.N_V hN)) hb
/-- a call of 'ex' -/
theorem ex_step {ok : Nat → Prop} {kind : Int} {xs : List S27} {ts : Array TypeId} {N : Tmp} (hd : o.dst = some N) (hg : o.guard = none) (ho : o.op = .call { callee := .value (.func 12), args := #[.const (.int .i64 kind), .tmp s], argTypes := ts }) (h : EXs ok W (b.eval (.tmp s)) xs) (hok : ∀ k, W.heap.size ≤ k → ok k)
    (hK : ∀ v W', EXv ok W' v ⟨kind, 0, xs⟩ → Below W.heap.size W W' → K (b.put o.dst v) W') :
    if Region.wanted o (yielded ops b.tmps) = true then Oper.wp Try.prog o b W K Q else K (b.put o.dst undef) W := by
  obtain ⟨A, c, e, hl, hF⟩ := h
  refine goes_ Try.func12 (by kernel_rfl) rfl #[.int .i64 kind, .slice A xs.length c] (by unfold Region.wanted; rw [hg]) rfl ho (by simp only [List.map_toArray, List.map_cons, List.map_nil, e]; rfl) ?_
  refine (impl_ex.calls kind ok A c xs kind 0 xs W (Kd.V_mk hl hF) rfl).mono ?_
  rintro e w' ⟨v2, rfl, hv, hb⟩
  exact ⟨_, rfl, hK _ _ (EXv.of (b := 0) (Kd.V_mono (base := 0) hv (fun k hk => hk.elim id (hok k)))) hb⟩

/-- a store into a box -/
theorem st_step {g : Nat} {f0 f1 : Int} {u0 u1 u2 : Value} {A : Option Addr} {n c : Nat} (hd : o.dst = none) (hg : o.guard = none) (ho : o.op = .store 27 (.tmp s) (.tmp s2)) (hu : b.eval (.tmp s) = .pointer (some ⟨g, 0, none⟩)) (hv : b.eval (.tmp s2) = .agg #[.int .i64 f0, .int .i64 f1, (.slice A n c)]) (hb : W.heap[g]? = some (.cells #[u0, u1, u2] 27 (0, 0)))
    (hK : ∀ W', W'.heap[g]? = some (.cells #[.int .i64 f0, .int .i64 f1, (.slice A n c)] 27 (0, 0)) → Wr g W W' → K b W') :
    if Region.wanted o (yielded ops b.tmps) = true then Oper.wp Try.prog o b W K Q else K (b.put o.dst undef) W := by
  have hc0 := (blk_cell hb 0).trans (show _ = some u0 from rfl)
  have hc1 := (blk_cell hb 1).trans (show _ = some u1 from rfl)
  have hc2 := (blk_cell hb 2).trans (show _ = some u2 from rfl)
  have hf0 := blk_frozen hb 0
  have hf1 := blk_frozen hb 1
  have hf2 := blk_frozen hb 2
  have hu27 := Try.underlying27
  have huu := tm_eval hu
  have hvv := tm_eval hv
  rw [show b.put o.dst undef = b.put none undef by rw [hd]]
  refine skip_ (w1 := ((W.setCell ⟨g, 0, none⟩ (.int .i64 f0)).setCell ⟨g, 1, none⟩ (.int .i64 f1)).setCell ⟨g, 2, none⟩ (.slice A n c)) (by unfold Region.wanted; rw [hg]) hd ?_ ?_
  · unfold execOp
    rw [ho]
    go_simp
  · refine hK _ (blk_put (cs := #[.int .i64 f0, .int .i64 f1, u2]) (blk_put (cs := #[.int .i64 f0, u1, u2]) (blk_put hb 0 (.int .i64 f0) rfl) 1 (.int .i64 f1) rfl) 2 (.slice A n c) rfl) ?_
    exact ((Wr.set W g 0 _).trans (Wr.set _ g 1 _)).trans (Wr.set _ g 2 _)
theorem st_stepE {ok : Nat → Prop} {x : S27} {g : Nat} {u0 u1 u2 : Value} (hd : o.dst = none) (hg : o.guard = none) (ho : o.op = .store 27 (.tmp s) (.tmp s2)) (hu : b.eval (.tmp s) = .pointer (some ⟨g, 0, none⟩)) (hv : EXv ok W (b.eval (.tmp s2)) x) (hb : W.heap[g]? = some (.cells #[u0, u1, u2] 27 (0, 0)))
    (hK : ∀ W' A c, W'.heap[g]? = some (.cells #[.int .i64 x.f0, .int .i64 x.f1, .slice A x.f2.length c] 27 (0, 0)) → EXv ok W (.agg #[.int .i64 x.f0, .int .i64 x.f1, .slice A x.f2.length c]) x → Wr g W W' → K b W') :
    if Region.wanted o (yielded ops b.tmps) = true then Oper.wp Try.prog o b W K Q else K (b.put o.dst undef) W := by
  obtain ⟨A, c, e, hl, hF⟩ := hv
  exact st_step hd hg ho hu e hb (fun W' h1 h2 => hK W' A c h1 ⟨A, c, rfl, hl, hF⟩ h2)
end
theorem EXv.eval {ok : Nat → Prop} {W : World} {v u : Value} {x : S27} (e : u = v) (h : EXv ok W v x) : EXv ok W u x := by
  rw [e]
  exact h
section
variable {ops : Array Oper} {Q : Exit → Act → World → Prop} {o : Oper} {b : Act} {W : World} {K : Act → World → Prop} {s s1 s2 s3 : Tmp}
theorem ix0_step {ad : Addr} {n c : Nat} (hg : o.guard = none) (ho : o.op = .indexAddr 24 (.tmp s) (.const (.int .i64 0))) (hu : b.eval (.tmp s) = .slice (some ad) n c) (h : 0 < n) (hn : n ≤ 9223372036854775807) (hK : K (b.put o.dst (.pointer (some (ad.add (0 * 3))))) W) :
    if Region.wanted o (yielded ops b.tmps) = true then Oper.wp Try.prog o b W K Q else K (b.put o.dst undef) W := by
  refine value_ (by unfold Region.wanted; rw [hg]) rfl (v := .pointer (some (ad.add (0 * 3)))) (w1 := W) ?_ hK
  have h1 : (0 : Int) < (n : Int) := by omega
  have hu24 := Try.underlying24
  have hu27 := Try.underlying27
  unfold execOp
  rw [ho]
  simp only [hu]
  go_simp
theorem sb_step {k : Int} (hg : o.guard = none) (ho : o.op = .binOp .sub 3 (.tmp s) (.const (.int .i64 1)) 3) (hu : b.eval (.tmp s) = .int .i64 k) (h0 : 0 ≤ k) (h1 : k ≤ 100) (hK : K (b.put o.dst (.int .i64 (k - 1))) W) :
    if Region.wanted o (yielded ops b.tmps) = true then Oper.wp Try.prog o b W K Q else K (b.put o.dst undef) W := by
  refine value_ (by unfold Region.wanted; rw [hg]) rfl (v := .int .i64 (k - 1)) (w1 := W) ?_ hK
  have ew : IntKind.i64.wrap (k - 1) = k - 1 := IntWalk.i64_in _ (by omega)
  have hu3 := Try.underlying3
  unfold execOp
  rw [ho]
  simp only [hu]
  go_simp
theorem sl_step {ok : Nat → Prop} {x : S27} {r : List S27} (hg : o.guard = none) (ho : o.op = .slice 24 (.tmp s) (some (.const (.int .i64 1))) none none) (h : EXs ok W (b.eval (.tmp s)) (x :: r)) (hK : ∀ v, EXs ok W v r → K (b.put o.dst v) W) :
    if Region.wanted o (yielded ops b.tmps) = true then Oper.wp Try.prog o b W K Q else K (b.put o.dst undef) W := by
  obtain ⟨A, c, e, hl, hF⟩ := h
  have hcap : 1 ≤ (x :: r).length := by simp
  obtain ⟨i, hi, _, hs, _⟩ := info_parts (show (Try.prog.info? 27).map (fun i => (i.zero, i.size, i.bytes)) = some (some (.agg #[(.int .i64 0), (.int .i64 0), (.slice none 0 0)]), 3, 40) by kernel_rfl)
  have hcut := cut_from (P := Try.prog) 24 27 .i64 Try.underlying24 hi 3 hs A (x :: r).length c 1 (by omega) (by omega) W
  refine value_ (by unfold Region.wanted; rw [hg]) rfl (v := .slice (if c = (1 : Int).toNat then A else A.map (·.add ((1 : Int).toNat * 3))) ((x :: r).length - (1 : Int).toNat) (c - (1 : Int).toNat)) (w1 := W) ?_ (hK _ ?_)
  · unfold execOp
    rw [ho]
    simp only [e]
    have h1r : (1 : Int) ≤ (r.length : Int) + 1 := by omega
    clear hcut
    go_simp
  · simp only [List.length_cons] at hl
    exact ⟨_, c - (1 : Int).toNat, rfl, (show r.length ≤ c - 1 by omega), Kd.F_cut (m := (1 : Int).toNat) (c := c) hF (by simp) (by simpa using hl)⟩
/-- a call of a function that tells of a number and a row -/
theorem rc_step {ok : Nat → Prop} {f : FuncId} {fn : Func} (hf : Try.prog.funcs[f]? = some fn) (hname : (fn.name == "runtime.NumGoroutine") = false) (hbody : fn.body.isSome = true) {k : Int} {r : List S27} {x : S27} {ts : Array TypeId} (hg : o.guard = none) (ho : o.op = .call { callee := .value (.func f), args := #[.tmp s, .tmp s2], argTypes := ts }) (hk : b.eval (.tmp s) = .int .i64 k) (h : EXs ok W (b.eval (.tmp s2)) r)
    (ih : ∀ (vl : Value), EXs ok W vl r → Calls Try.prog f #[.int .i64 k, vl] W fun e W' => ∃ u, e = .returned u ∧ EXv ok W' u x ∧ Below W.heap.size W W')
    (hK : ∀ v W', EXv ok W' v x → Below W.heap.size W W' → K (b.put o.dst v) W') :
    if Region.wanted o (yielded ops b.tmps) = true then Oper.wp Try.prog o b W K Q else K (b.put o.dst undef) W := by
  refine goes_ hf hname hbody #[.int .i64 k, b.eval (.tmp s2)] (by unfold Region.wanted; rw [hg]) rfl ho (by simp only [List.map_toArray, List.map_cons, List.map_nil, hk]) ?_
  refine (ih _ h).mono ?_
  rintro e w' ⟨v, rfl, hv, hb⟩
  exact ⟨_, rfl, hK _ _ hv hb⟩
end
/-- at most k of some are true -/
def mostE : List S27 → Int → S27
  | [], k => if k < 0 then ⟨2, 0, []⟩ else ⟨2, 1, []⟩
  | x :: r, k => if k < 0 then ⟨2, 0, []⟩ else ⟨7, 0, [x, mostE r (k - 1), mostE r k]⟩
theorem EXs.eval {ok : Nat → Prop} {W : World} {v u : Value} {xs : List S27} (e : u = v) (h : EXs ok W v xs) : EXs ok W u xs := by
  rw [e]
  exact h
def most_T : Bool × List (List Nat × List Nat) := (true, [([], []), ([0], [0]), ([1], [1]), ([], []), ([3], [3]), ([], []), ([5], [5]), ([4, 6], [4, 6]), ([], []), ([], []), ([9], [9]), ([8, 10, 7], [8, 10]), ([2, 7, 11], [2, 7, 11]), ([12, 11], [12]), ([13, 13, 0, 1, 2, 3, 4, 5, 6, 7, 8, 9, 10, 11, 12, 13], [13])])
theorem most_tab : rtab .any (opsOf Try.f20 5) = most_T := by kernel_rfl
set_option maxHeartbeats 1600000 in
set_option maxRecDepth 100000 in
theorem most_any : ∀ (l : List S27) (k : Int) (vl : Value) (w : World) (ok : Nat → Prop), -1 ≤ k → k ≤ 100 → EXs ok w vl l → (∀ k, w.heap.size ≤ k → ok k) →
    Calls Try.prog 20 #[.int .i64 k, vl] w fun e w' => ∃ u, e = .returned u ∧ EXv ok w' u (mostE l k) ∧ Below w.heap.size w w' := by
  intro l
  induction l with
  | nil =>
    intro k vl w ok hkl hku hl hok
    have hu27 := Try.underlying27
    have hu24 := Try.underlying24
    have HOK := Aside0.mk hok
    clear hok
    have HB := Aside0.mk (Below.refl w.heap.size w)
    obtain ⟨Al, cl, rfl, ll, Fl⟩ := hl
    have hmx := Kd.F_max Fl
    have HL := Aside0.mk (show EXs (fun k => ok k ∧ k < w.heap.size) w (.slice Al ([] : List S27).length cl) [] from ⟨_, _, rfl, ll, Kd.F_bound Fl⟩)
    clear Fl ll
    by_cases hk : k < 0
    · rw [mostE, if_pos hk]
      go_enter Try.func20, Try.ntmps20
      go_wp2_with (first | ((with_reducible refine gate_dst (N := 4) rfl ?_); refine box_event ?hg (N := 4) ?hd (cs := #[.int .i64 0, .int .i64 0, .slice none 0 0]) (t := 27) ?hr ?_; (case hd => rfl); (case hg => rfl); (case hr => first | (go_simp; done) | (go_simp; rfl)); intro gr hgw wb_gr hbox hbb; have HR := Aside0.mk (And.intro hbox (show w.heap.size ≤ gr by rw [hgw]; exact HB.out.size)); have hbs := hbb; clear hgw hbox; have m0_ := Aside0.mk (HB.out.trans (hbs.mono HB.out.size)); have m1_ := Aside0.mk (EXs.move HL.out hbs); clear HB HL; have HB := m0_; have HL := m1_; clear m0_ m1_; clear hbb hbs) | (go_at_call 11; (with_reducible refine (impl_constEx.calls 0 2 0 [] _ rfl).mono ?_); rintro e w1 ⟨v0, rfl, hr0, hb⟩; obtain ⟨A0, c0, e0⟩ := Kd.R_slice hr0; subst e0; have H0 := Aside0.mk (Kd.R_bound hr0); clear hr0; have HW1 := Aside0.mk HB.out.size; have HR0 := Aside0.mk (blk_lt HR.out.1); have m0_ := Aside0.mk (HB.out.trans (hb.mono HB.out.size)); have m1_ := Aside0.mk (And.intro (blk_below HR.out.1 hb) HR.out.2); clear HB HR; have HB := m0_; have HR := m1_; clear m0_ m1_; clear hb; have hz0 := (blk_cell HR.out.1 0).trans (show _ = some (.int .i64 0) from rfl); have hz1 := (blk_cell HR.out.1 1).trans (show _ = some (.int .i64 0) from rfl); have hz2 := (blk_cell HR.out.1 2).trans (show _ = some (.slice none 0 0) from rfl); have hzf0 := blk_frozen HR.out.1 0; have hzf1 := blk_frozen HR.out.1 1; have hzf2 := blk_frozen HR.out.1 2))
      have hput := box_put3 (a := .int .i64 2) (b := .int .i64 0) (v := .slice A0 0 c0) HR.out.1
      refine bodyPost_ret (results_cell_row rfl _ _ gr 27 #[.int .i64 2, .int .i64 0, .slice A0 0 c0] (0, 0) _ rfl hput.1 Try.underlying27 rfl (by kernel_rfl)) rfl ?_
      exact ⟨_, rfl, EXv.mono (EXv.kept (ok := fun k_ => ok k_ ∧ k_ ≠ gr) (EXv.of (b := 0) (Kd.R_V (Kd.R_mono H0.out (fun k_ hk_ => ⟨HOK.out k_ (Nat.le_trans HW1.out hk_.2.1), Nat.ne_of_gt (Nat.lt_of_lt_of_le HR0.out hk_.2.1)⟩)))) hput.2.kept (fun k_ hk_ hs_ => hk_.2 hs_)) (fun k_ hk_ => hk_.1), hput.2.below _ HB.out HR.out.2⟩
    · rw [mostE, if_neg hk]
      have hk2 : decide (k < 0) = false := decide_eq_false hk
      go_enter Try.func20, Try.ntmps20
      go_wp2_with (first | ((with_reducible refine gate_dst (N := 4) rfl ?_); refine box_event ?hg (N := 4) ?hd (cs := #[.int .i64 0, .int .i64 0, .slice none 0 0]) (t := 27) ?hr ?_; (case hd => rfl); (case hg => rfl); (case hr => first | (go_simp; done) | (go_simp; rfl)); intro gr hgw wb_gr hbox hbb; have HR := Aside0.mk (And.intro hbox (show w.heap.size ≤ gr by rw [hgw]; exact HB.out.size)); have hbs := hbb; clear hgw hbox; have m0_ := Aside0.mk (HB.out.trans (hbs.mono HB.out.size)); have m1_ := Aside0.mk (EXs.move HL.out hbs); clear HB HL; have HB := m0_; have HL := m1_; clear m0_ m1_; clear hbb hbs) | (go_at_call 11; (with_reducible refine (impl_constEx.calls 1 2 1 [] _ rfl).mono ?_); rintro e w1 ⟨v0, rfl, hr0, hb⟩; obtain ⟨A0, c0, e0⟩ := Kd.R_slice hr0; subst e0; have H0 := Aside0.mk (Kd.R_bound hr0); clear hr0; have HW1 := Aside0.mk HB.out.size; have HR0 := Aside0.mk (blk_lt HR.out.1); have m0_ := Aside0.mk (HB.out.trans (hb.mono HB.out.size)); have m1_ := Aside0.mk (And.intro (blk_below HR.out.1 hb) HR.out.2); clear HB HR; have HB := m0_; have HR := m1_; clear m0_ m1_; clear hb; have hz0 := (blk_cell HR.out.1 0).trans (show _ = some (.int .i64 0) from rfl); have hz1 := (blk_cell HR.out.1 1).trans (show _ = some (.int .i64 0) from rfl); have hz2 := (blk_cell HR.out.1 2).trans (show _ = some (.slice none 0 0) from rfl); have hzf0 := blk_frozen HR.out.1 0; have hzf1 := blk_frozen HR.out.1 1; have hzf2 := blk_frozen HR.out.1 2))
      have hput := box_put3 (a := .int .i64 2) (b := .int .i64 1) (v := .slice A0 0 c0) HR.out.1
      refine bodyPost_ret (results_cell_row rfl _ _ gr 27 #[.int .i64 2, .int .i64 1, .slice A0 0 c0] (0, 0) _ rfl hput.1 Try.underlying27 rfl (by kernel_rfl)) rfl ?_
      exact ⟨_, rfl, EXv.mono (EXv.kept (ok := fun k_ => ok k_ ∧ k_ ≠ gr) (EXv.of (b := 0) (Kd.R_V (Kd.R_mono H0.out (fun k_ hk_ => ⟨HOK.out k_ (Nat.le_trans HW1.out hk_.2.1), Nat.ne_of_gt (Nat.lt_of_lt_of_le HR0.out hk_.2.1)⟩)))) hput.2.kept (fun k_ hk_ hs_ => hk_.2 hs_)) (fun k_ hk_ => hk_.1), hput.2.below _ HB.out HR.out.2⟩
  | cons x r ih =>
    intro k vl w ok hkl hku hl hok
    have hu27 := Try.underlying27
    have hu24 := Try.underlying24
    have HOK := Aside0.mk hok
    clear hok
    have HB := Aside0.mk (Below.refl w.heap.size w)
    have IH := Aside0.mk ih
    clear ih
    obtain ⟨Al, cl, rfl, ll, Fl⟩ := hl
    have hmx := Kd.F_max Fl
    have HL := Aside0.mk (show EXs (fun k => ok k ∧ k < w.heap.size) w (.slice Al (x :: r).length cl) (x :: r) from ⟨_, _, rfl, ll, Kd.F_bound Fl⟩)
    clear Fl ll
    by_cases hk : k < 0
    · rw [mostE, if_pos hk]
      go_enter Try.func20, Try.ntmps20
      go_wp2_with (first | ((with_reducible refine gate_dst (N := 4) rfl ?_); refine box_event ?hg (N := 4) ?hd (cs := #[.int .i64 0, .int .i64 0, .slice none 0 0]) (t := 27) ?hr ?_; (case hd => rfl); (case hg => rfl); (case hr => first | (go_simp; done) | (go_simp; rfl)); intro gr hgw wb_gr hbox hbb; have HR := Aside0.mk (And.intro hbox (show w.heap.size ≤ gr by rw [hgw]; exact HB.out.size)); have hbs := hbb; clear hgw hbox; have m0_ := Aside0.mk (HB.out.trans (hbs.mono HB.out.size)); have m1_ := Aside0.mk (EXs.move HL.out hbs); clear HB HL; have HB := m0_; have HL := m1_; clear m0_ m1_; clear hbb hbs) | (go_at_call 11; (with_reducible refine (impl_constEx.calls 0 2 0 [] _ rfl).mono ?_); rintro e w1 ⟨v0, rfl, hr0, hb⟩; obtain ⟨A0, c0, e0⟩ := Kd.R_slice hr0; subst e0; have H0 := Aside0.mk (Kd.R_bound hr0); clear hr0; have HW1 := Aside0.mk HB.out.size; have HR0 := Aside0.mk (blk_lt HR.out.1); have m0_ := Aside0.mk (HB.out.trans (hb.mono HB.out.size)); have m1_ := Aside0.mk (And.intro (blk_below HR.out.1 hb) HR.out.2); clear HB HR; have HB := m0_; have HR := m1_; clear m0_ m1_; clear hb; have hz0 := (blk_cell HR.out.1 0).trans (show _ = some (.int .i64 0) from rfl); have hz1 := (blk_cell HR.out.1 1).trans (show _ = some (.int .i64 0) from rfl); have hz2 := (blk_cell HR.out.1 2).trans (show _ = some (.slice none 0 0) from rfl); have hzf0 := blk_frozen HR.out.1 0; have hzf1 := blk_frozen HR.out.1 1; have hzf2 := blk_frozen HR.out.1 2))
      have hput := box_put3 (a := .int .i64 2) (b := .int .i64 0) (v := .slice A0 0 c0) HR.out.1
      refine bodyPost_ret (results_cell_row rfl _ _ gr 27 #[.int .i64 2, .int .i64 0, .slice A0 0 c0] (0, 0) _ rfl hput.1 Try.underlying27 rfl (by kernel_rfl)) rfl ?_
      exact ⟨_, rfl, EXv.mono (EXv.kept (ok := fun k_ => ok k_ ∧ k_ ≠ gr) (EXv.of (b := 0) (Kd.R_V (Kd.R_mono H0.out (fun k_ hk_ => ⟨HOK.out k_ (Nat.le_trans HW1.out hk_.2.1), Nat.ne_of_gt (Nat.lt_of_lt_of_le HR0.out hk_.2.1)⟩)))) hput.2.kept (fun k_ hk_ hs_ => hk_.2 hs_)) (fun k_ hk_ => hk_.1), hput.2.below _ HB.out HR.out.2⟩
    · rw [mostE, if_neg hk]
      have hk2 : decide (k < 0) = false := decide_eq_false hk
      have hk0 : 0 ≤ k := by omega
      have hk1 : k ≤ 100 := hku
      have hln : ((((x :: r).length : Nat) : Int) == 0) = false := by simp; omega
      go_enter Try.func20, Try.ntmps20
      go_wp2_with (first | ((with_reducible refine gate_dst (N := 4) rfl ?_); refine box_event ?hg (N := 4) ?hd (cs := #[.int .i64 0, .int .i64 0, .slice none 0 0]) (t := 27) ?hr ?_; (case hd => rfl); (case hg => rfl); (case hr => first | (go_simp; done) | (go_simp; rfl)); intro gr hgw wb_gr hbox hbb; have HR := Aside0.mk (And.intro hbox (show w.heap.size ≤ gr by rw [hgw]; exact HB.out.size)); have hbs := hbb; clear hgw hbox; have m0_ := Aside0.mk (HB.out.trans (hbs.mono HB.out.size)); have m1_ := Aside0.mk (EXs.move HL.out hbs); clear HB HL; have HB := m0_; have HL := m1_; clear m0_ m1_; clear hbb hbs))
      obtain ⟨ad, c_, Ax, cx, exa, x0, x1, x2, xv⟩ := HL.out.at 0 (Nat.succ_pos _)
      cases exa
      have Hx := Aside0.mk (And.intro x0 (And.intro x1 (And.intro x2 xv)))
      clear x0 x1 x2 xv
      have cm : ∀ (W : World) {p : Addr} {v : Value}, Below wb_gr.drew.heap.size wb_gr.drew W → wb_gr.cell? p = some v → W.cell? p = some v := fun W p v hW hx => (hW.cell (World.block_lt_of_cell? _ _ hx)).trans hx
      have cx0 := fun (W : World) (hW : Below wb_gr.drew.heap.size wb_gr.drew W) => cm W hW Hx.out.1
      have cx1 := fun (W : World) (hW : Below wb_gr.drew.heap.size wb_gr.drew W) => cm W hW Hx.out.2.1
      have cx2 := fun (W : World) (hW : Below wb_gr.drew.heap.size wb_gr.drew W) => cm W hW Hx.out.2.2.1
      obtain ⟨ok2, hok2e⟩ : ∃ ok2 : Nat → Prop, ok2 = fun k => ok k ∧ k ≠ gr := ⟨_, rfl⟩
      have hno : ∀ k, ok k ∧ k < w.heap.size → ok2 k := fun k hk => by rw [hok2e]; exact ⟨hk.1, Nat.ne_of_lt (Nat.lt_of_lt_of_le hk.2 HR.out.2)⟩
      have evl : EXs ok2 wb_gr.drew _ (x :: r) := EXs.move (EXs.mono HL.out hno) (below_drew (Below.refl _ _))
      have evx : EXv ok2 wb_gr.drew _ x := EXv.move (EXv.mono Hx.out.2.2.2 hno) (below_drew (Below.refl _ _))
      have hok2 : ∀ k, wb_gr.drew.heap.size ≤ k → ok2 k := fun k hk => by rw [hok2e]; exact ⟨HOK.out k (Nat.le_trans HB.out.size hk), Nat.ne_of_gt (Nat.lt_of_lt_of_le (blk_lt HR.out.1) hk)⟩
      have ihm := fun (vl : Value) (W : World) (ok : Nat → Prop) (h1 : EXs ok W vl r) (h2 : ∀ k, W.heap.size ≤ k → ok k) => IH.out (k - 1) vl W ok (by omega) (by omega) h1 h2
      have ihk := fun (vl : Value) (W : World) (ok : Nat → Prop) (h1 : EXs ok W vl r) (h2 : ∀ k, W.heap.size ≤ k → ok k) => IH.out k vl W ok (by omega) (by omega) h1 h2
      refine any_region [some 14, some 15, some 16, some 17, some 18, some 19, some 20, some 21, some 22, some 23, some 24, some 25, some 26, some 27, none] 28 14 [VP.eq (.slice (some ad) (x :: r).length cl), VP.eq (.pointer (some (ad.add (0 * 3)))), VP.ex ok2 (x), VP.eq (.int .i64 k), VP.eq (.int .i64 (k - 1)), VP.eq (.slice (some ad) (x :: r).length cl), VP.exs ok2 (r), VP.ex ok2 (mostE r (k - 1)), VP.eq (.int .i64 k), VP.eq (.slice (some ad) (x :: r).length cl), VP.exs ok2 (r), VP.ex ok2 (mostE r k), VP.exs ok2 ([x, mostE r (k - 1), mostE r k]), VP.ex ok2 (⟨7, 0, [x, mostE r (k - 1), mostE r k]⟩)] rfl most_tab rfl rfl (by kernel_rfl) rfl ⟨?_, ?_, ?_, ?_, ?_, ?_, ?_, ?_, ?_, ?_, ?_, ?_, ?_, ?_, trivial⟩ ?_
      · intro b W B hW hB hb hd K hK hK2; exact mv_step rfl rfl (hb 1 (by kernel_rfl)) (hK _ _ rfl (Below.refl _ _))
      · intro b W B hW hB hb hd K hK hK2; exact ix0_step rfl rfl (hd 0 14 (by kernel_rfl) rfl) (Nat.succ_pos _) hmx (hK _ _ rfl (Below.refl _ _))
      · intro b W B hW hB hb hd K hK hK2; exact ld_step rfl rfl (hd 1 15 (by kernel_rfl) rfl) (cx0 W hW) (cx1 W hW) (cx2 W hW) (hK _ _ (EXv.old evx hW hB) (Below.refl _ _))
      · intro b W B hW hB hb hd K hK hK2; exact mv_step rfl rfl (hb 0 (by kernel_rfl)) (hK _ _ rfl (Below.refl _ _))
      · intro b W B hW hB hb hd K hK hK2; exact sb_step rfl rfl (hd 3 17 (by kernel_rfl) rfl) hk0 hk1 (hK _ _ rfl (Below.refl _ _))
      · intro b W B hW hB hb hd K hK hK2; exact mv_step rfl rfl (hb 1 (by kernel_rfl)) (hK _ _ rfl (Below.refl _ _))
      · intro b W B hW hB hb hd K hK hK2; exact sl_step rfl rfl (EXs.eval (hd 5 19 (by kernel_rfl) rfl) (EXs.old evl hW hB)) (fun v hv => hK v _ hv (Below.refl _ _))
      · intro b W B hW hB hb hd K hK hK2; exact rc_step Try.func20 (by kernel_rfl) rfl rfl rfl (hd 4 18 (by kernel_rfl) rfl) (hd 6 20 (by kernel_rfl) rfl) (fun vl hl_ => ihm vl W (fun k => ok2 k ∧ ¬ B k) hl_ (fresh_ hok2 hW hB)) (fun v W' hv hb => hK v W' hv hb)
      · intro b W B hW hB hb hd K hK hK2; exact mv_step rfl rfl (hb 0 (by kernel_rfl)) (hK _ _ rfl (Below.refl _ _))
      · intro b W B hW hB hb hd K hK hK2; exact mv_step rfl rfl (hb 1 (by kernel_rfl)) (hK _ _ rfl (Below.refl _ _))
      · intro b W B hW hB hb hd K hK hK2; exact sl_step rfl rfl (EXs.eval (hd 9 23 (by kernel_rfl) rfl) (EXs.old evl hW hB)) (fun v hv => hK v _ hv (Below.refl _ _))
      · intro b W B hW hB hb hd K hK hK2; exact rc_step Try.func20 (by kernel_rfl) rfl rfl rfl (hd 8 22 (by kernel_rfl) rfl) (hd 10 24 (by kernel_rfl) rfl) (fun vl hl_ => ihk vl W (fun k => ok2 k ∧ ¬ B k) hl_ (fresh_ hok2 hW hB)) (fun v W' hv hb => hK v W' hv hb)
      · intro b W B hW hB hb hd K hK hK2; exact bs3_step rfl rfl rfl (hd 2 16 (by kernel_rfl) rfl) (hd 7 21 (by kernel_rfl) rfl) (hd 11 25 (by kernel_rfl) rfl) (fresh_ hok2 hW hB _ (Nat.le_refl _)) (fun v W' hv hb => hK v W' hv hb)
      · intro b W B hW hB hb hd K hK hK2; exact ex_step rfl rfl rfl (hd 12 26 (by kernel_rfl) rfl) (fresh_ hok2 hW hB) (fun v W' hv hb => hK v W' hv hb)
      · intro vals F W B hF hW hBB hV K hK
        refine st_stepE (ok := fun k => ok2 k ∧ ¬ B k) (x := (⟨7, 0, [x, mostE r (k - 1), mostE r k]⟩ : S27)) rfl rfl rfl (g := gr) ((congrArg (fun q_ : Act => q_.eval (.tmp 4)) hF).trans (fillA_o (by kernel_rfl) rfl)) (EXv.eval ((congrArg (fun q_ : Act => q_.eval (.tmp 27)) hF).trans (fillA_i (n := 28) (by kernel_rfl) rfl (by kernel_rfl))) (hV 13 27 (of_decide_eq_true (by kernel_rfl)) rfl)) (blk_below (blk_drew HR.out.1) hW) (fun W' A9 c9 hbk h9 hkp => hK _ _ ?_)
        have HL' := Aside0.mk (EXv.mono (ok' := ok) (EXv.kept (EXv.mono h9 (fun k hk => hk.1)) hkp.kept (fun k hk hs => by rw [hok2e] at hk; exact hk.2 hs)) (fun k hk => by rw [hok2e] at hk; exact hk.1))
        have HK' := Aside0.mk hbk
        have hbW := (below_drew1 HB.out).trans (hW.mono HB.out.size)
        have HB' := Aside0.mk (hkp.below _ hbW HR.out.2)
        clear HL HB HR hbW hkp hbk h9 hV hBB hW hok2 hno hok2e evl evx cm cx0 cx1 cx2 Hx hK ihm ihk IH
        rw [hF]
        clear hF
        simp only [List.take, fillA, Act.put, List.setIfInBounds_toArray, List.set_cons_zero, List.set_cons_succ]
        go_wp2
        refine bodyPost_ret (results_cell_row rfl _ _ gr 27 #[.int .i64 7, .int .i64 0, .slice A9 [x, mostE r (k - 1), mostE r k].length c9] (0, 0) _ rfl HK'.out Try.underlying27 rfl (by kernel_rfl)) rfl ?_
        exact ⟨_, rfl, HL'.out, HB'.out⟩

/-! ### impl_AtMostEx: function 9 -/
def impl_AtMostEx.f (k : Nat) (a0 : Int) (l1 : List S27) : Option (Int × Int × List S27 × Int) :=
  if l1.length > 4096 then some (0, 0, [], 2) else if l1.length > 6 then some (0, 0, [], 5) else
  (impl_within.f a0 (-1) 6).bind fun t => if t = true then ((impl_areExs.f l1).bind fun u => if u = true then (if -1 ≤ a0 ∧ a0 ≤ 100 then impl_checkedEx.f k (mostE l1 a0).f0 (mostE l1 a0).f1 (mostE l1 a0).f2 else none) else some (0, 0, [], 1)) else some (0, 0, [], 5)
theorem heap27 : Kd.Heap k27 := Kd.heap_fix (fun d hd => Kd.heap_iso _ (Kd.heap_pair (Kd.heap_int _) (Kd.heap_pair (Kd.heap_int _) (Kd.heap_slice 27 hd))))
theorem EXs.came {ok : Nat → Prop} {w : World} {A : Option Addr} {c : Nat} {xs : List S27} (h : Kd.C k27 w A xs.length xs) (hc : xs.length ≤ c) (hok : ∀ k, k < w.heap.size → ok k) : EXs ok w (.slice A xs.length c) xs := ⟨_, _, rfl, hc, Kd.F_mono (Kd.C_F heap27 h) hok⟩
set_option maxHeartbeats 1600000 in
set_option maxRecDepth 100000 in
theorem atMostS.calls (k : Nat) (a0 : Int) (P1_ : Nat → Prop) (A1 : Option Addr) (c1 : Nat) (l1 : List S27) (r1 r2 : Int) (r3 : List S27) (r4 : Int) (w : World) (hs1 : Kd.V k27 27 w w.heap.size (fun k_ => P1_ k_) (.slice A1 l1.length c1) l1) (h : impl_AtMostEx.f k a0 l1 = some (r1, r2, r3, r4)) :
    Calls Try.prog 9 #[.int .i64 a0, .slice A1 l1.length c1] w fun e w' => ∃ v2_ : Value, e = .returned (.tuple #[.agg #[.int .i64 r1, .int .i64 r2, v2_], .int .i64 r4]) ∧ Kd.S kS27 27 w' w.heap.size (fun _ => True) v2_ r3 ∧ Below w.heap.size w w' := by
  have hu27 := Try.underlying27
  have HB := Aside0.mk (Below.refl w.heap.size w)
  have H1 := Aside0.mk (And.intro (Kd.V_reads' hs1).2.2 (Kd.V_reads' hs1).2.1)
  clear hs1
  unfold impl_AtMostEx.f at h
  by_cases h1 : l1.length > 4096
  · rw [if_pos h1] at h
    simp only [Option.some.injEq, Prod.mk.injEq] at h
    obtain ⟨rfl, rfl, rfl, rfl⟩ := h
    have h1b : decide (l1.length > 4096) = true := decide_eq_true h1
    go_enter Try.func9, Try.ntmps9
    go_wp2_with (first | ((with_reducible refine gate_dst (N := 4) rfl ?_); refine box_event ?hg (N := 4) ?hd (cs := #[.int .i64 0, .int .i64 0, .slice none 0 0]) (t := 27) ?hr ?_; (case hd => rfl); (case hg => rfl); (case hr => first | (go_simp; done) | (go_simp; rfl)); intro gr hgw wb_gr hbox hbb; have HR := Aside0.mk (And.intro hbox (show w.heap.size ≤ gr by rw [hgw]; exact HB.out.size)); have hbs := hbb; clear hgw hbox; have m0_ := Aside0.mk (HB.out.trans (hbs.mono HB.out.size)); clear HB; have HB := m0_; clear m0_; clear hbb hbs; have hz0 := (blk_cell HR.out.1 0).trans (show _ = some (.int .i64 0) from rfl); have hz1 := (blk_cell HR.out.1 1).trans (show _ = some (.int .i64 0) from rfl); have hz2 := (blk_cell HR.out.1 2).trans (show _ = some (.slice none 0 0) from rfl); have hzf0 := blk_frozen HR.out.1 0; have hzf1 := blk_frozen HR.out.1 1; have hzf2 := blk_frozen HR.out.1 2))
    have hput := box_put3 (a := .int .i64 0) (b := .int .i64 0) (v := .slice none 0 0) HR.out.1
    refine bodyPost_ret (results_ct rfl _ _ gr 27 #[.int .i64 0, .int .i64 0, .slice none 0 0] (0, 0) _ rfl hput.1 Try.underlying27 rfl (by kernel_rfl)) rfl ?_
    exact ⟨_, rfl, Kd.S_nil _ _ _ _ _, hput.2.below _ HB.out HR.out.2⟩
  rw [if_neg h1] at h
  have h1b : decide (l1.length > 4096) = false := decide_eq_false h1
  by_cases h2 : l1.length > 6
  · rw [if_pos h2] at h
    simp only [Option.some.injEq, Prod.mk.injEq] at h
    obtain ⟨rfl, rfl, rfl, rfl⟩ := h
    have h2b : decide (l1.length > 6) = true := decide_eq_true h2
    go_enter Try.func9, Try.ntmps9
    go_wp2_with (first | ((with_reducible refine gate_dst (N := 4) rfl ?_); refine box_event ?hg (N := 4) ?hd (cs := #[.int .i64 0, .int .i64 0, .slice none 0 0]) (t := 27) ?hr ?_; (case hd => rfl); (case hg => rfl); (case hr => first | (go_simp; done) | (go_simp; rfl)); intro gr hgw wb_gr hbox hbb; have HR := Aside0.mk (And.intro hbox (show w.heap.size ≤ gr by rw [hgw]; exact HB.out.size)); have hbs := hbb; clear hgw hbox; have m0_ := Aside0.mk (HB.out.trans (hbs.mono HB.out.size)); clear HB; have HB := m0_; clear m0_; clear hbb hbs; have hz0 := (blk_cell HR.out.1 0).trans (show _ = some (.int .i64 0) from rfl); have hz1 := (blk_cell HR.out.1 1).trans (show _ = some (.int .i64 0) from rfl); have hz2 := (blk_cell HR.out.1 2).trans (show _ = some (.slice none 0 0) from rfl); have hzf0 := blk_frozen HR.out.1 0; have hzf1 := blk_frozen HR.out.1 1; have hzf2 := blk_frozen HR.out.1 2))
    have hput := box_put3 (a := .int .i64 0) (b := .int .i64 0) (v := .slice none 0 0) HR.out.1
    refine bodyPost_ret (results_ct rfl _ _ gr 27 #[.int .i64 0, .int .i64 0, .slice none 0 0] (0, 0) _ rfl hput.1 Try.underlying27 rfl (by kernel_rfl)) rfl ?_
    exact ⟨_, rfl, Kd.S_nil _ _ _ _ _, hput.2.below _ HB.out HR.out.2⟩
  rw [if_neg h2] at h
  have h2b : decide (l1.length > 6) = false := decide_eq_false h2
  obtain ⟨t, hwi, h⟩ := Option.bind_eq_some_iff.1 h
  cases t with
  | false =>
    rw [if_neg Bool.false_ne_true] at h
    simp only [Option.some.injEq, Prod.mk.injEq] at h
    obtain ⟨rfl, rfl, rfl, rfl⟩ := h
    go_enter Try.func9, Try.ntmps9
    go_wp2_with (first | ((with_reducible refine gate_dst (N := 4) rfl ?_); refine box_event ?hg (N := 4) ?hd (cs := #[.int .i64 0, .int .i64 0, .slice none 0 0]) (t := 27) ?hr ?_; (case hd => rfl); (case hg => rfl); (case hr => first | (go_simp; done) | (go_simp; rfl)); intro gr hgw wb_gr hbox hbb; have HR := Aside0.mk (And.intro hbox (show w.heap.size ≤ gr by rw [hgw]; exact HB.out.size)); have hbs := hbb; clear hgw hbox; have m0_ := Aside0.mk (HB.out.trans (hbs.mono HB.out.size)); clear HB; have HB := m0_; clear m0_; clear hbb hbs; have hz0 := (blk_cell HR.out.1 0).trans (show _ = some (.int .i64 0) from rfl); have hz1 := (blk_cell HR.out.1 1).trans (show _ = some (.int .i64 0) from rfl); have hz2 := (blk_cell HR.out.1 2).trans (show _ = some (.slice none 0 0) from rfl); have hzf0 := blk_frozen HR.out.1 0; have hzf1 := blk_frozen HR.out.1 1; have hzf2 := blk_frozen HR.out.1 2) | (go_at_call 18; (with_reducible refine (impl_within.calls a0 (-1) 6 _ _ hwi).mono ?_); rintro e w1 ⟨rfl, hd⟩; have hb := hd.below; clear hd; clear hz0 hz1 hz2 hzf0 hzf1 hzf2; have m0_ := Aside0.mk (HB.out.trans (hb.mono HB.out.size)); have m1_ := Aside0.mk (And.intro (blk_below HR.out.1 hb) HR.out.2); clear HB HR; have HB := m0_; have HR := m1_; clear m0_ m1_; clear hb; have hz0 := (blk_cell HR.out.1 0).trans (show _ = some (.int .i64 0) from rfl); have hz1 := (blk_cell HR.out.1 1).trans (show _ = some (.int .i64 0) from rfl); have hz2 := (blk_cell HR.out.1 2).trans (show _ = some (.slice none 0 0) from rfl); have hzf0 := blk_frozen HR.out.1 0; have hzf1 := blk_frozen HR.out.1 1; have hzf2 := blk_frozen HR.out.1 2))
    have hput := box_put3 (a := .int .i64 0) (b := .int .i64 0) (v := .slice none 0 0) HR.out.1
    refine bodyPost_ret (results_ct rfl _ _ gr 27 #[.int .i64 0, .int .i64 0, .slice none 0 0] (0, 0) _ rfl hput.1 Try.underlying27 rfl (by kernel_rfl)) rfl ?_
    exact ⟨_, rfl, Kd.S_nil _ _ _ _ _, hput.2.below _ HB.out HR.out.2⟩
  | true =>
    rw [if_pos rfl] at h
    obtain ⟨u, har, h⟩ := Option.bind_eq_some_iff.1 h
    cases u with
    | false =>
      rw [if_neg Bool.false_ne_true] at h
      simp only [Option.some.injEq, Prod.mk.injEq] at h
      obtain ⟨rfl, rfl, rfl, rfl⟩ := h
      go_enter Try.func9, Try.ntmps9
      go_wp2_with (first | ((with_reducible refine gate_dst (N := 4) rfl ?_); refine box_event ?hg (N := 4) ?hd (cs := #[.int .i64 0, .int .i64 0, .slice none 0 0]) (t := 27) ?hr ?_; (case hd => rfl); (case hg => rfl); (case hr => first | (go_simp; done) | (go_simp; rfl)); intro gr hgw wb_gr hbox hbb; have HR := Aside0.mk (And.intro hbox (show w.heap.size ≤ gr by rw [hgw]; exact HB.out.size)); have hbs := hbb; clear hgw hbox; have m0_ := Aside0.mk (HB.out.trans (hbs.mono HB.out.size)); clear HB; have HB := m0_; clear m0_; clear hbb hbs; have hz0 := (blk_cell HR.out.1 0).trans (show _ = some (.int .i64 0) from rfl); have hz1 := (blk_cell HR.out.1 1).trans (show _ = some (.int .i64 0) from rfl); have hz2 := (blk_cell HR.out.1 2).trans (show _ = some (.slice none 0 0) from rfl); have hzf0 := blk_frozen HR.out.1 0; have hzf1 := blk_frozen HR.out.1 1; have hzf2 := blk_frozen HR.out.1 2) | (go_at_call 18; (with_reducible refine (impl_within.calls a0 (-1) 6 _ _ hwi).mono ?_); rintro e w1 ⟨rfl, hd⟩; have hb := hd.below; clear hd; clear hz0 hz1 hz2 hzf0 hzf1 hzf2; have m0_ := Aside0.mk (HB.out.trans (hb.mono HB.out.size)); have m1_ := Aside0.mk (And.intro (blk_below HR.out.1 hb) HR.out.2); clear HB HR; have HB := m0_; have HR := m1_; clear m0_ m1_; clear hb; have hz0 := (blk_cell HR.out.1 0).trans (show _ = some (.int .i64 0) from rfl); have hz1 := (blk_cell HR.out.1 1).trans (show _ = some (.int .i64 0) from rfl); have hz2 := (blk_cell HR.out.1 2).trans (show _ = some (.slice none 0 0) from rfl); have hzf0 := blk_frozen HR.out.1 0; have hzf1 := blk_frozen HR.out.1 1; have hzf2 := blk_frozen HR.out.1 2) | (go_at_call 19; (with_reducible refine (impl_areExs.calls A1 c1 l1 _ _ (Kd.C_below H1.out.1 HB.out) H1.out.2 har).mono ?_); rintro e w2 ⟨rfl, hb⟩; clear hz0 hz1 hz2 hzf0 hzf1 hzf2; have m0_ := Aside0.mk (HB.out.trans (hb.mono HB.out.size)); have m1_ := Aside0.mk (And.intro (blk_below HR.out.1 hb) HR.out.2); clear HB HR; have HB := m0_; have HR := m1_; clear m0_ m1_; clear hb; have hz0 := (blk_cell HR.out.1 0).trans (show _ = some (.int .i64 0) from rfl); have hz1 := (blk_cell HR.out.1 1).trans (show _ = some (.int .i64 0) from rfl); have hz2 := (blk_cell HR.out.1 2).trans (show _ = some (.slice none 0 0) from rfl); have hzf0 := blk_frozen HR.out.1 0; have hzf1 := blk_frozen HR.out.1 1; have hzf2 := blk_frozen HR.out.1 2))
      have hput := box_put3 (a := .int .i64 0) (b := .int .i64 0) (v := .slice none 0 0) HR.out.1
      refine bodyPost_ret (results_ct rfl _ _ gr 27 #[.int .i64 0, .int .i64 0, .slice none 0 0] (0, 0) _ rfl hput.1 Try.underlying27 rfl (by kernel_rfl)) rfl ?_
      exact ⟨_, rfl, Kd.S_nil _ _ _ _ _, hput.2.below _ HB.out HR.out.2⟩
    | true =>
      rw [if_pos rfl] at h
      by_cases hq : -1 ≤ a0 ∧ a0 ≤ 100
      · rw [if_pos hq] at h
        have HQ := Aside0.mk hq
        clear hq
        go_enter Try.func9, Try.ntmps9
        go_wp2_with (first | ((with_reducible refine gate_dst (N := 4) rfl ?_); refine box_event ?hg (N := 4) ?hd (cs := #[.int .i64 0, .int .i64 0, .slice none 0 0]) (t := 27) ?hr ?_; (case hd => rfl); (case hg => rfl); (case hr => first | (go_simp; done) | (go_simp; rfl)); intro gr hgw wb_gr hbox hbb; have HR := Aside0.mk (And.intro hbox (show w.heap.size ≤ gr by rw [hgw]; exact HB.out.size)); have hbs := hbb; clear hgw hbox; have m0_ := Aside0.mk (HB.out.trans (hbs.mono HB.out.size)); clear HB; have HB := m0_; clear m0_; clear hbb hbs; have hz0 := (blk_cell HR.out.1 0).trans (show _ = some (.int .i64 0) from rfl); have hz1 := (blk_cell HR.out.1 1).trans (show _ = some (.int .i64 0) from rfl); have hz2 := (blk_cell HR.out.1 2).trans (show _ = some (.slice none 0 0) from rfl); have hzf0 := blk_frozen HR.out.1 0; have hzf1 := blk_frozen HR.out.1 1; have hzf2 := blk_frozen HR.out.1 2) | (go_at_call 18; (with_reducible refine (impl_within.calls a0 (-1) 6 _ _ hwi).mono ?_); rintro e w1 ⟨rfl, hd⟩; have hb := hd.below; clear hd; clear hz0 hz1 hz2 hzf0 hzf1 hzf2; have m0_ := Aside0.mk (HB.out.trans (hb.mono HB.out.size)); have m1_ := Aside0.mk (And.intro (blk_below HR.out.1 hb) HR.out.2); clear HB HR; have HB := m0_; have HR := m1_; clear m0_ m1_; clear hb; have hz0 := (blk_cell HR.out.1 0).trans (show _ = some (.int .i64 0) from rfl); have hz1 := (blk_cell HR.out.1 1).trans (show _ = some (.int .i64 0) from rfl); have hz2 := (blk_cell HR.out.1 2).trans (show _ = some (.slice none 0 0) from rfl); have hzf0 := blk_frozen HR.out.1 0; have hzf1 := blk_frozen HR.out.1 1; have hzf2 := blk_frozen HR.out.1 2) | (go_at_call 19; (with_reducible refine (impl_areExs.calls A1 c1 l1 _ _ (Kd.C_below H1.out.1 HB.out) H1.out.2 har).mono ?_); rintro e w2 ⟨rfl, hb⟩; clear hz0 hz1 hz2 hzf0 hzf1 hzf2; have m0_ := Aside0.mk (HB.out.trans (hb.mono HB.out.size)); have m1_ := Aside0.mk (And.intro (blk_below HR.out.1 hb) HR.out.2); clear HB HR; have HB := m0_; have HR := m1_; clear m0_ m1_; clear hb; have hz0 := (blk_cell HR.out.1 0).trans (show _ = some (.int .i64 0) from rfl); have hz1 := (blk_cell HR.out.1 1).trans (show _ = some (.int .i64 0) from rfl); have hz2 := (blk_cell HR.out.1 2).trans (show _ = some (.slice none 0 0) from rfl); have hzf0 := blk_frozen HR.out.1 0; have hzf1 := blk_frozen HR.out.1 1; have hzf2 := blk_frozen HR.out.1 2) | (go_at_call 20; (with_reducible refine (most_any l1 a0 _ _ (fun k_ => k_ ≠ gr) HQ.out.1 HQ.out.2 (EXs.move (EXs.came H1.out.1 H1.out.2 (fun k_ hk_ => Nat.ne_of_lt (Nat.lt_of_lt_of_le hk_ HR.out.2))) HB.out) (fun k_ hk_ => Nat.ne_of_gt (Nat.lt_of_lt_of_le (blk_lt HR.out.1) hk_))).mono ?_); rintro e w3 ⟨u_, rfl, hu, hb⟩; obtain ⟨Az, cz, rfl, lz, Fz⟩ := hu; have HZ := Aside0.mk (And.intro lz Fz); clear lz Fz; clear hz0 hz1 hz2 hzf0 hzf1 hzf2; have m0_ := Aside0.mk (HB.out.trans (hb.mono HB.out.size)); have m1_ := Aside0.mk (And.intro (blk_below HR.out.1 hb) HR.out.2); clear HB HR; have HB := m0_; have HR := m1_; clear m0_ m1_; clear hb) | (go_at_call 13; (with_reducible refine (checkedS.calls k (mostE l1 a0).f0 (mostE l1 a0).f1 Az cz (mostE l1 a0).f2 _ _ _ _ _ (Kd.F_now HZ.out.2) HZ.out.1 h).mono ?_); rintro e w4 ⟨v4, rfl, hS, hb⟩; have HS := Aside0.mk (show Kd.S kS27 27 w4 w.heap.size (fun k_ => k_ ≠ gr) v4 r3 from Kd.S_lower (Kd.S_mono (Kd.S_bound hS) (fun k_ hk_ => Nat.ne_of_gt (Nat.lt_of_lt_of_le (blk_lt HR.out.1) hk_.2.1))) HB.out.size); obtain ⟨A4, c4, e4⟩ := Kd.S_slice hS; subst e4; clear hS; have m0_ := Aside0.mk (HB.out.trans (hb.mono HB.out.size)); have m1_ := Aside0.mk (And.intro (blk_below HR.out.1 hb) HR.out.2); clear HB HR; have HB := m0_; have HR := m1_; clear m0_ m1_; clear hb; have hz0 := (blk_cell HR.out.1 0).trans (show _ = some (.int .i64 0) from rfl); have hz1 := (blk_cell HR.out.1 1).trans (show _ = some (.int .i64 0) from rfl); have hz2 := (blk_cell HR.out.1 2).trans (show _ = some (.slice none 0 0) from rfl); have hzf0 := blk_frozen HR.out.1 0; have hzf1 := blk_frozen HR.out.1 1; have hzf2 := blk_frozen HR.out.1 2))
        have hput := box_put3 (a := .int .i64 r1) (b := .int .i64 r2) (v := .slice A4 r3.length c4) HR.out.1
        refine bodyPost_ret (results_ct rfl _ _ gr 27 #[.int .i64 r1, .int .i64 r2, .slice A4 r3.length c4] (0, 0) _ rfl hput.1 Try.underlying27 rfl (by kernel_rfl)) rfl ?_
        exact ⟨_, rfl, Kd.S_mono (Kd.S_kept HS.out hput.2.kept (fun k_ hk_ hs_ => hk_ hs_)) (fun _ _ => trivial), hput.2.below _ HB.out HR.out.2⟩
      · rw [if_neg hq] at h
        cases h

-- NOT PRINTED: function 3 (laws_FnCompares)

end Go.Proofs.Ytpcgepealdpinaa.PFnCompares
