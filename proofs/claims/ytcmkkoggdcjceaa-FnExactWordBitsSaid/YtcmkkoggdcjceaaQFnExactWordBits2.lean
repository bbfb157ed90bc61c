/- FnExactWordBits: for every input the law returns true. The texts that this program's session printed and proved for it, those that the proof uses, laid together. Conditions: the form's own reach alone. -/
import Derived.Test.YtcmkkoggdcjceaaQFnExactWordBits1
section
namespace Go.Proofs.Ytcmkkoggdcjceaa.PFnExactWordBits
open Go.RowKit Go.Proofs.YtcmkkoggdcjceaaW.PrintWords Go.Proofs.YtcmkkoggdcjceaaW.PrintLast Go.Proofs.YtcmkkoggdcjceaaW.PrintMore
attribute [local go_sem] max2_int min2_int max_two min_two max_three min_three max_four min_four   -- for this text's walks alone
set_option linter.unusedVariables false
set_option linter.unusedSimpArgs false
section
variable {P : Program} {ops : Array Oper} {Q : Exit → Act → World → Prop}
structure VP where
 p : (Nat → Prop) → World → Value → Prop
 move : ∀ B B' W W' v, Below W.heap.size W W' → (∀ k, B k → B' k) → (∀ k, B' k → B k ∨ W.heap.size ≤ k) → p B W v → p B' W' v
def VP.eq (u : Value) : VP := ⟨fun _ _ v => v = u, fun _ _ _ _ _ _ _ _ h => h⟩
def VP.any : VP := ⟨fun _ _ _ => True, fun _ _ _ _ _ _ _ _ h => h⟩
def fillA (vals : Nat → Value) : List (Option Tmp) → Act → Act
 | [], a => a
 | none :: r, a => fillA vals r a
 | some N :: r, a => fillA vals r (a.put (some N) (vals N))
theorem put_same {a : Act} {N : Tmp} {v : Value} (h : N < a.tmps.size) : (a.put (some N) v).eval (.tmp N) = v := by
 simp [Act.put, Act.eval, h]
theorem put_other {a : Act} {N M : Tmp} {v : Value} (h : M ≠ N) : (a.put (some N) v).eval (.tmp M) = a.eval (.tmp M) := by
 simp [Act.put, Act.eval, Array.getD_eq_getD_getElem?, Array.getElem?_setIfInBounds, Ne.symm h]
theorem put_size {a : Act} {N : Option Tmp} {v : Value} : (a.put N v).tmps.size = a.tmps.size := by
 cases N <;> simp [Act.put]
theorem put_defers {a : Act} {N : Option Tmp} {v : Value} : (a.put N v).defers = a.defers := by
 cases N <;> rfl
theorem fillA_size {vals : Nat → Value} : ∀ (ds : List (Option Tmp)) (a : Act), (fillA vals ds a).tmps.size = a.tmps.size
 | [], a => rfl
 | none :: r, a => fillA_size r a
 | some N :: r, a => (fillA_size r _).trans put_size
theorem fillA_defers {vals : Nat → Value} : ∀ (ds : List (Option Tmp)) (a : Act), (fillA vals ds a).defers = a.defers
 | [], a => rfl
 | none :: r, a => fillA_defers r a
 | some N :: r, a => (fillA_defers r _).trans put_defers
theorem fillA_other {vals : Nat → Value} {t : Tmp} : ∀ (ds : List (Option Tmp)) (a : Act), some t ∉ ds → (fillA vals ds a).eval (.tmp t) = a.eval (.tmp t)
 | [], a, _ => rfl
 | none :: r, a, h => fillA_other r a (fun q => h (List.mem_cons_of_mem _ q))
 | some N :: r, a, h => (fillA_other r _ (fun q => h (List.mem_cons_of_mem _ q))).trans (put_other (fun q => h (by rw [q]; exact List.mem_cons_self)))
theorem fillA_at {vals : Nat → Value} {t : Tmp} : ∀ (ds : List (Option Tmp)) (a : Act), some t ∈ ds → t < a.tmps.size → (fillA vals ds a).eval (.tmp t) = vals t
 | [], a, h, _ => by cases h
 | none :: r, a, h, hs => fillA_at r a (by rcases List.mem_cons.1 h with h | h; cases h; exact h) hs
 | some N :: r, a, h, hs => by
  by_cases hr : some t ∈ r
  ·exact fillA_at r _ hr (by rw [put_size]; exact hs)
  ·have : t = N := by
    rcases List.mem_cons.1 h with h | h
    ·exact Option.some.inj h
    ·exact absurd h hr
   subst this
   exact (fillA_other r _ hr).trans (put_same hs)
theorem fillA_o {vals : Nat → Value} {t : Tmp} {ds : List (Option Tmp)} {a : Act} {u : Value} (h : ds.contains (some t) = false) (hu : a.eval (.tmp t) = u) : (fillA vals ds a).eval (.tmp t) = u := (fillA_other ds a (fun hm => by rw [List.contains_iff_mem.2 hm] at h; cases h)).trans hu
theorem fillA_i {vals : Nat → Value} {t n : Nat} {ds : List (Option Tmp)} {a : Act} (h : ds.contains (some t) = true) (hn : a.tmps.size = n) (ht : Nat.blt t n = true) : (fillA vals ds a).eval (.tmp t) = vals t := fillA_at ds a (List.contains_iff_mem.1 h) (by rw [hn]; exact Nat.blt_eq ▸ ht)
theorem act_ext {a b : Act} (h1 : a.tmps.size = b.tmps.size) (h2 : a.defers = b.defers) (h3 : ∀ t, t < a.tmps.size → a.eval (.tmp t) = b.eval (.tmp t)) : a = b := by
 obtain ⟨x, d⟩ := a
 obtain ⟨y, e⟩ := b
 simp only at h1 h2
 subst h2
 congr 1
 refine Array.ext h1 (fun i hi hj => ?_)
 have := h3 i hi
 simpa [Act.eval, Array.getD_eq_getD_getElem?, hi, hj] using this
def okL (L : List (Option Tmp)) (n m : Nat) (T : Bool × List (List Nat × List Nat)) : Bool :=
 L.length == m + 1 && (L.take m).all (fun N => match N with | some t => decide (t < n) | none => false) && decide (L.take m).Nodup && (List.range m).all (fun j => ((T.2.getD m ([], [])).1).contains j) && (List.range (m + 1)).all (fun i => ((T.2.getD i ([], [])).1).all (fun j => decide (j < i)))
def Each (C : Nat → Oper → Prop) : Nat → Nat → List Oper → Prop
 | 0, _, _ => True
 | _, _, [] => True
 | f + 1, k, o :: r => C k o ∧ Each C f (k + 1) r
theorem Each.at {C : Nat → Oper → Prop} : ∀ (f k : Nat) (l : List Oper), Each C f k l → ∀ (i : Nat) (o : Oper), i < f → l[i]? = some o → C (k + i) o
 | 0, k, l, _, i, o, hi, _ => absurd hi (Nat.not_lt_zero _)
 | f + 1, k, [], _, i, o, _, h => by simp at h
 | f + 1, k, x :: r, h, 0, o, _, ho => by
  obtain rfl : x = o := by simpa using ho
  exact h.1
 | f + 1, k, x :: r, h, i + 1, o, hi, ho => by
  have := Each.at f (k + 1) r h.2 i o (by omega) (by simpa using ho)
  rwa [show k + 1 + i = k + (i + 1) by omega] at this
def StepOk (P : Program) (ops : Array Oper) (Q : Exit → Act → World → Prop) (a0 : Act) (w0 : World) (L : List (Option Tmp)) (T : Bool × List (List Nat × List Nat)) (V : List VP) (i : Nat) (o : Oper) : Prop :=
 ∀ (b : Act) (W : World) (B : Nat → Prop), Below w0.heap.size w0 W → (∀ k, B k → w0.heap.size ≤ k ∧ k < W.heap.size) → (∀ t, L.contains (some t) = false → b.eval (.tmp t) = a0.eval (.tmp t)) →
  (∀ j t, ((T.2.getD i ([], [])).1).contains j = true → L[j]? = some (some t) → (V.getD j VP.any).p B W (b.eval (.tmp t))) →
  ∀ K : Act → World → Prop, (∀ v W', (V.getD i VP.any).p B W' v → Below W.heap.size W W' → K (b.put o.dst v) W') → (∀ v W', (V.getD i VP.any).p (fun k => B k ∨ k = W.heap.size) W' v → Below W.heap.size W W' → W.heap.size < W'.heap.size → K (b.put o.dst v) W') → if Region.wanted o (yielded ops b.tmps) = true then Oper.wp P o b W K Q else K (b.put o.dst undef) W
structure AInv (a0 : Act) (w0 : World) (L : List (Option Tmp)) (m : Nat) (V : List VP) (l : Array Bool) (B : Nat → Prop) (a : Act) (w : World) : Prop where
 size : a.tmps.size = a0.tmps.size
 defers : a.defers = a0.defers
 below : Below w0.heap.size w0 w
 boxes : ∀ k, B k → w0.heap.size ≤ k ∧ k < w.heap.size
 lsize : l.size = m + 1
 last : l.getD m true = false
 other : ∀ t, (∀ i, i < m → L[i]? = some (some t) → l.getD i false = false) → a.eval (.tmp t) = a0.eval (.tmp t)
 vals : ∀ i t, i < m → L[i]? = some (some t) → l.getD i false = true → (V.getD i VP.any).p B w (a.eval (.tmp t))
theorem nodup_get {L : List (Option Tmp)} (h : L.Nodup) {i j : Nat} {x : Option Tmp} (hi : L[i]? = some x) (hj : L[j]? = some x) : i = j := by
 have hi' := (List.getElem?_eq_some_iff.1 hi)
 have hj' := (List.getElem?_eq_some_iff.1 hj)
 obtain ⟨a1, e1⟩ := hi'
 obtain ⟨b1, e2⟩ := hj'
 rw [List.nodup_iff_pairwise_ne, List.pairwise_iff_getElem] at h
 rcases Nat.lt_trichotomy i j with q | q | q
 ·exact absurd (e1.trans e2.symm) (h i j a1 b1 q)
 ·exact q
 ·exact absurd (e2.trans e1.symm) (h j i b1 a1 q)
theorem countP_lt {p q : Nat → Bool} : ∀ (L : List Nat), (∀ x ∈ L, q x = true → p x = true) → (∃ x ∈ L, p x = true ∧ q x = false) → L.countP q < L.countP p
 | [], _, h => by obtain ⟨x, hx, _⟩ := h; cases hx
 | y :: r, h1, h2 => by
  have hle : ∀ (M : List Nat), (∀ x ∈ M, q x = true → p x = true) → M.countP q ≤ M.countP p := fun M hM => List.countP_mono_left hM
  rw [List.countP_cons, List.countP_cons]
  obtain ⟨x, hx, hp, hq⟩ := h2
  rcases List.mem_cons.1 hx with rfl | hx
  ·rw [hp, hq]
   have := hle r (fun x hx => h1 x (List.mem_cons_of_mem _ hx))
   simp
   omega
  ·have := countP_lt r (fun x hx => h1 x (List.mem_cons_of_mem _ hx)) ⟨x, hx, hp, hq⟩
   have h3 : (if q y = true then 1 else 0) ≤ (if p y = true then 1 else 0) := by
    by_cases hy : q y = true
    ·rw [if_pos hy, if_pos (h1 y List.mem_cons_self hy)]
     exact Nat.le_refl _
    ·rw [if_neg hy]
     exact Nat.zero_le _
   omega
theorem any_region {id : Nat} {a0 : Act} {w : World} {T : Bool × List (List Nat × List Nat)} {oL : Oper} (L : List (Option Tmp)) (n m : Nat) (V : List VP) (hm : P.follows .mixedOrders = true) (hT : rtab .any ops = T) (hL : ops.toList.map (·.dst) = L) (hn : a0.tmps.size = n) (hc : okL L n m T = true) (hoL : ops[m]? = some oL)
  (step : Each (StepOk P ops Q a0 w.drew L T V) m 0 ops.toList)
  (last : ∀ (vals : Nat → Value) (F : Act) (W : World) (B : Nat → Prop), F = fillA vals (L.take m) a0 → Below w.drew.heap.size w.drew W → (∀ k, B k → w.drew.heap.size ≤ k ∧ k < W.heap.size) → (∀ i t, i < m → L[i]? = some (some t) → (V.getD i VP.any).p B W (vals t)) → ∀ K : Act → World → Prop, (∀ a' W', Q .normal a' W' → K a' W') → if Region.wanted oL (yielded ops F.tmps) = true then Oper.wp P oL F W K Q else K (F.put oL.dst undef) W) :
  (Code.region id ops true).wp P Q a0 w := by
 simp only [okL, Bool.and_eq_true, beq_iff_eq, decide_eq_true_eq] at hc
 obtain ⟨⟨⟨⟨c1, c2⟩, c3⟩, c4⟩, c5⟩ := hc
 have hsz : ops.size = m + 1 := by rw [← c1, ← hL]; simp
 have hdst : ∀ (i : Nat) (o : Oper), ops[i]? = some o → L[i]? = some o.dst := by
  intro i o ho
  rw [← hL, List.getElem?_map, Array.getElem?_toList, ho]
  rfl
 have hneeds : ∀ (i : Nat) (o : Oper), ops[i]? = some o → (T.2.getD i ([], [])).1 = needsOf .any o := by
  intro i o ho
  rw [← hT, List.getD_eq_getElem?_getD, rtab_some ho]
  rfl
 have hneed : ∀ (i : Nat) (o : Oper) (l : Array Bool), ops[i]? = some o → (∀ e ∈ o.after, Region.binds .any e = true → l.getD e.on false = true) → ∀ j, ((T.2.getD i ([], [])).1).contains j = true → l.getD j false = true := by
  intro i o l ho hall j hj
  rw [hneeds i o ho] at hj
  unfold needsOf at hj
  rw [List.contains_iff_mem, List.mem_map] at hj
  obtain ⟨e, he, rfl⟩ := hj
  rw [List.mem_filter] at he
  exact hall e (by simpa using he.1) he.2
 have hback : ∀ (i : Nat) (o : Oper) (l : Array Bool), ops[i]? = some o → (∀ j, ((T.2.getD i ([], [])).1).contains j = true → l.getD j false = true) → l.getD i true = false → i ∈ Region.ready .any ops l := by
  intro i o l ho h hl
  refine mem_ready.2 ⟨hl, o, ho, fun e he hb => ?_⟩
  refine h e.on ?_
  rw [hneeds i o ho, List.contains_iff_mem]
  unfold needsOf
  rw [List.mem_map]
  exact ⟨e, by rw [List.mem_filter]; exact ⟨by simpa using he, hb⟩, rfl⟩
 have hlt : ∀ (i : Nat) (t : Tmp), i < m → L[i]? = some (some t) → t < n := by
  intro i t hi ht
  have := List.all_eq_true.1 c2 (some t) (List.mem_of_getElem? (i := i) (by rw [List.getElem?_take_of_lt hi]; exact ht))
  simpa using this
 have huniq : ∀ (i j : Nat) (t : Tmp), i < m → j < m → L[i]? = some (some t) → L[j]? = some (some t) → i = j := by
  intro i j t hi hj h1 h2
  exact nodup_get c3 (by rw [List.getElem?_take_of_lt hi]; exact h1) (by rw [List.getElem?_take_of_lt hj]; exact h2)
 have hfirst : ∀ (l : Array Bool), l.size = m + 1 → l.getD m true = false → Region.ready .any ops l ≠ [] := by
  intro l hls hl hr
  -- the first that is not listed is ready
  have ex : ∃ i, i < m + 1 ∧ l.getD i true = false := ⟨m, by omega, hl⟩
  have fst : ∀ (d i : Nat), d = i → (i < m + 1 ∧ l.getD i true = false) → ∃ i0, i0 < m + 1 ∧ l.getD i0 true = false ∧ ∀ j, j < i0 → l.getD j false = true := by
   intro d
   induction d using Nat.strongRecOn with
   | _ d ih =>
    intro i hd hi
    by_cases h : ∀ j, j < i → l.getD j false = true
    ·exact ⟨i, hi.1, hi.2, h⟩
    ·simp only [Classical.not_forall] at h
     obtain ⟨j, hj, hjl⟩ := h
     refine ih j (by omega) j rfl ⟨by omega, ?_⟩
     have : j < l.size := by omega
     simp only [Array.getD_eq_getD_getElem?, Array.getElem?_eq_getElem this, Option.getD_some] at hjl ⊢
     simpa using hjl
  obtain ⟨i0, h1, h2, h3⟩ := fst m m rfl ⟨by omega, hl⟩
  have ho : ops[i0]? = some (ops[i0]'(by omega)) := Array.getElem?_eq_getElem (by omega)
  have := hback i0 _ l ho (fun j hj => h3 j (by
   have := List.all_eq_true.1 c5 i0 (List.mem_range.2 h1)
   have := List.all_eq_true.1 this j (List.contains_iff_mem.1 hj)
   simpa using this)) h2
  rw [hr] at this
  cases this
 refine wp_region_any hm ?_
 have key : ∀ (fuel : Nat) (l : Array Bool) (B : Nat → Prop) (a : Act) (W : World), AInv a0 w.drew L m V l B a W → (List.range (m + 1)).countP (fun i => !l.getD i true) ≤ fuel → wpAny P .any ops Q fuel l a W := by
  intro fuel
  induction fuel with
  | zero =>
   intro l B a W inv hf
   have h0 : (List.range (m + 1)).countP (fun i => !l.getD i true) = 0 := by omega
   rw [List.countP_eq_zero] at h0
   exact absurd (by rw [inv.last]; rfl) (h0 m (by simp))
  | succ fuel ih =>
   intro l B a W inv hf
   refine ⟨fun hr => absurd hr (hfirst l inv.lsize inv.last), fun i hi => ?_⟩
   obtain ⟨h1, o, ho, h2'⟩ := mem_ready.1 hi
   have h2 := hneed i o l ho h2'
   have him : i < m + 1 := by rw [← hsz]; exact (Array.getElem?_eq_some_iff.1 ho).1
   unfold wpOp
   rw [ho]
   simp only
   have hset : ∀ j, j ≠ i → ∀ b, (l.setIfInBounds i true).getD j b = l.getD j b := by
    intro j hj b
    simp [Array.getD_eq_getD_getElem?, Array.getElem?_setIfInBounds, Ne.symm hj]
   have hset1 : ∀ b, (l.setIfInBounds i true).getD i b = true := by
    intro b
    have : i < l.size := by rw [inv.lsize]; exact him
    simp [Array.getD_eq_getD_getElem?, Array.getElem?_setIfInBounds, this]
   by_cases hlast : i = m
   ·subst hlast
    have hall : ∀ j, j < i → l.getD j false = true := by
     intro j hj
     exact h2 j (List.all_eq_true.1 c4 j (List.mem_range.2 hj))
    have hfill : a = fillA (fun t => a.eval (.tmp t)) (L.take i) a0 := by
     refine act_ext ?_ ?_ (fun t ht => ?_)
     ·rw [fillA_size, inv.size]
     ·rw [fillA_defers, inv.defers]
     ·by_cases hmem : some t ∈ L.take i
      ·rw [fillA_at _ _ hmem (by rw [← inv.size]; exact ht)]
      ·rw [fillA_other _ _ hmem]
       refine inv.other t (fun j hj hjt => ?_)
       exact absurd (List.mem_of_getElem? (i := j) (by rw [List.getElem?_take_of_lt hj]; exact hjt)) hmem
    have hdone : Region.ready .any ops (l.setIfInBounds i true) = [] := by
     rw [List.eq_nil_iff_forall_not_mem]
     intro j hj
     obtain ⟨q1, oj, hoj, _⟩ := mem_ready.1 hj
     have hjm : j < i + 1 := by rw [← hsz]; exact (Array.getElem?_eq_some_iff.1 hoj).1
     by_cases hji : j = i
     ·subst hji; rw [hset1] at q1; cases q1
     ·rw [hset j hji] at q1
      have q2 := hall j (by omega)
      have : j < l.size := by rw [inv.lsize]; omega
      simp only [Array.getD_eq_getD_getElem?, Array.getElem?_eq_getElem this, Option.getD_some] at q1 q2
      rw [q1] at q2
      cases q2
    obtain rfl : oL = o := Option.some.inj (hoL.symm.trans ho)
    have hl := last (fun t => a.eval (.tmp t)) a W B hfill inv.below inv.boxes (fun j t hj hjt => inv.vals j t hj hjt (hall j hj)) (wpAny P .any ops Q fuel (l.setIfInBounds i true)) (fun a' W' h => wpAny_done hdone h fuel)
    by_cases hw : Region.wanted oL (yielded ops a.tmps) = true
    ·rw [if_pos hw] at hl ⊢
     exact .inl hl
    ·rw [if_neg hw] at hl ⊢
     exact hl
   ·have him2 : i < m := by omega
    have hst := Each.at m 0 ops.toList step i o him2 (by rw [Array.getElem?_toList]; exact ho)
    rw [Nat.zero_add] at hst
    have hgo : ∀ (B' : Nat → Prop) v W', (V.getD i VP.any).p B' W' v → Below W.heap.size W W' → (∀ k, B k → B' k) → (∀ k, B' k → B k ∨ W.heap.size ≤ k) → (∀ k, B' k → w.drew.heap.size ≤ k ∧ k < W'.heap.size) → wpAny P .any ops Q fuel (l.setIfInBounds i true) (a.put o.dst v) W' := by
     intro B' v W' hv hb hB0 hB1 hB2
     refine ih _ B' _ _ ⟨?_, ?_, ?_, hB2, ?_, ?_, ?_, ?_⟩ ?_
     ·rw [put_size]; exact inv.size
     ·rw [put_defers]; exact inv.defers
     ·exact inv.below.trans (hb.mono inv.below.size)
     ·rw [Array.size_setIfInBounds]; exact inv.lsize
     ·rw [hset m (by omega)]; exact inv.last
     ·intro t ht
      have hne : ∀ N, o.dst = some N → t ≠ N := by
       intro N hN htN
       subst htN
       have := ht i him2 (by rw [hdst i o ho, hN])
       rw [hset1] at this
       cases this
      rw [show (a.put o.dst v).eval (.tmp t) = a.eval (.tmp t) from by
       cases hN : o.dst with
       | none => rfl
       | some N => exact put_other (hne N hN)]
      refine inv.other t (fun j hj hjt => ?_)
      have := ht j hj hjt
      by_cases hji : j = i
      ·subst hji
       rw [hset1] at this
       cases this
      ·rw [hset j hji] at this
       exact this
     ·intro j t hj hjt hjl
      by_cases hji : j = i
      ·subst hji
       have hN : o.dst = some t := by
        have := hdst j o ho
        rw [hjt] at this
        exact (Option.some.inj this).symm
       rw [hN, put_same (by rw [inv.size, hn]; exact hlt j t hj hjt)]
       exact hv
      ·rw [hset j hji] at hjl
       have hne : ∀ N, o.dst = some N → t ≠ N := by
        intro N hN htN
        subst htN
        exact hji (huniq j i t hj him2 hjt (by rw [hdst i o ho, hN]))
       rw [show (a.put o.dst v).eval (.tmp t) = a.eval (.tmp t) from by
        cases hN : o.dst with
        | none => rfl
        | some N => exact put_other (hne N hN)]
       exact (V.getD j VP.any).move B B' _ _ _ hb hB0 hB1 (inv.vals j t hj hjt hjl)
     ·have := countP_lt (p := fun j => !l.getD j true) (q := fun j => !(l.setIfInBounds i true).getD j true) (List.range (m + 1)) (fun j _ hq => by
       by_cases hji : j = i
       ·subst hji
        rw [hset1] at hq
        cases hq
       ·rwa [hset j hji] at hq) ⟨i, List.mem_range.2 him, by rw [h1]; rfl, by rw [hset1]; rfl⟩
      omega
    have hst2 := hst a W B inv.below inv.boxes (fun t ht => inv.other t (fun j hj hjt => absurd (List.contains_iff_mem.2 (List.mem_of_getElem? hjt)) (by rw [ht]; simp)))
     (fun j t hj hjt => by
      have hjm : j < m := by
       have := List.all_eq_true.1 c5 i (List.mem_range.2 him)
       have := List.all_eq_true.1 this j (List.contains_iff_mem.1 hj)
       simp only [decide_eq_true_eq] at this
       omega
      exact inv.vals j t hjm hjt (h2 j hj)) (wpAny P .any ops Q fuel (l.setIfInBounds i true))
     (fun v W' hv hb => hgo B v W' hv hb (fun k hk => hk) (fun k hk => .inl hk) (fun k hk => ⟨(inv.boxes k hk).1, Nat.lt_of_lt_of_le (inv.boxes k hk).2 hb.size⟩))
     (fun v W' hv hb hlt2 => hgo _ v W' hv hb (fun k hk => .inl hk) (fun k hk => hk.elim .inl (fun h => .inr (Nat.le_of_eq h.symm))) (fun k hk => hk.elim (fun hk => ⟨(inv.boxes k hk).1, Nat.lt_of_lt_of_le (inv.boxes k hk).2 hb.size⟩) (fun h => by rw [h]; exact ⟨inv.below.size, hlt2⟩)))
    by_cases hw : Region.wanted o (yielded ops a.tmps) = true
    ·rw [if_pos hw] at hst2 ⊢
     exact .inl hst2
    ·rw [if_neg hw] at hst2 ⊢
     exact hst2
 refine key ops.size _ (fun _ => False) a0 w.drew ⟨rfl, rfl, Below.refl _ _, fun _ hk => hk.elim, by rw [Array.size_replicate, hsz], ?_, fun _ _ => rfl, fun i t hi hit hl => ?_⟩ ?_
 ·simp [Array.getD_eq_getD_getElem?, hsz]
 ·simp only [Array.getD_eq_getD_getElem?] at hl
  rw [Array.getElem?_eq_getElem (by rw [Array.size_replicate]; omega)] at hl
  simp at hl
 ·rw [hsz]
  exact Nat.le_trans List.countP_le_length (by simp)
end
def EXv (ok : Nat → Prop) (W : World) (v : Value) (x : S31) : Prop := ∃ A c, v = .agg #[.int .i64 x.f0, .int .i64 x.f1, .slice A x.f2.length c] ∧ x.f2.length ≤ c ∧ Kd.F k31 W ok A x.f2.length x.f2
def EXs (ok : Nat → Prop) (W : World) (v : Value) (xs : List S31) : Prop := ∃ A c, v = .slice A xs.length c ∧ xs.length ≤ c ∧ Kd.F k31 W ok A xs.length xs
theorem EXv.move {ok : Nat → Prop} {W W1 : World} {v : Value} {x : S31} (h : EXv ok W v x) (hb : Below W.heap.size W W1) : EXv ok W1 v x := by
 obtain ⟨A, c, e, hl, hF⟩ := h
 exact ⟨A, c, e, hl, Kd.F_below hF hb⟩
theorem EXs.move {ok : Nat → Prop} {W W1 : World} {v : Value} {xs : List S31} (h : EXs ok W v xs) (hb : Below W.heap.size W W1) : EXs ok W1 v xs := by
 obtain ⟨A, c, e, hl, hF⟩ := h
 exact ⟨A, c, e, hl, Kd.F_below hF hb⟩
theorem EXv.mono {ok ok' : Nat → Prop} {W : World} {v : Value} {x : S31} (h : EXv ok W v x) (hk : ∀ k, ok k → ok' k) : EXv ok' W v x := by
 obtain ⟨A, c, e, hl, hF⟩ := h
 exact ⟨A, c, e, hl, Kd.F_mono hF hk⟩
theorem EXs.mono {ok ok' : Nat → Prop} {W : World} {v : Value} {xs : List S31} (h : EXs ok W v xs) (hk : ∀ k, ok k → ok' k) : EXs ok' W v xs := by
 obtain ⟨A, c, e, hl, hF⟩ := h
 exact ⟨A, c, e, hl, Kd.F_mono hF hk⟩
theorem EXs.of {ok : Nat → Prop} {W : World} {v : Value} {xs : List S31} {b : Nat} (h : Kd.V k31 31 W b ok v xs) : EXs ok W v xs := h
theorem EXv.of {ok : Nat → Prop} {W : World} {v2 : Value} {f0 f1 : Int} {f2 : List S31} {b : Nat} (h : Kd.V k31 31 W b ok v2 f2) : EXv ok W (.agg #[.int .i64 f0, .int .i64 f1, v2]) ⟨f0, f1, f2⟩ := by
 obtain ⟨A, c, rfl, hl, hF⟩ := h
 exact ⟨A, c, rfl, hl, hF⟩
theorem EXs.at {ok : Nat → Prop} {W : World} {v : Value} {xs : List S31} (h : EXs ok W v xs) (i : Nat) (hi : i < xs.length) : ∃ ad c A2 c2, v = .slice (some ad) xs.length c ∧ W.cell? (ad.add (i * 3)) = some (.int .i64 xs[i].f0) ∧ W.cell? ⟨(ad.add (i * 3)).block, (ad.add (i * 3)).off + 1, none⟩ = some (.int .i64 xs[i].f1) ∧ W.cell? ⟨(ad.add (i * 3)).block, (ad.add (i * 3)).off + 2, none⟩ = some (.slice A2 xs[i].f2.length c2) ∧ EXv ok W (.agg #[.int .i64 xs[i].f0, .int .i64 xs[i].f1, .slice A2 xs[i].f2.length c2]) xs[i] := by
 obtain ⟨A, c, rfl, hl, hF⟩ := h
 obtain ⟨ad, cs, he, hcl, hK, hcc, _⟩ := Kd.F_get hF z31 (i : Int) (by omega) (by omega)
 subst he
 obtain ⟨A2, c2, rfl, l2, g2⟩ := k31_openF hK
 have e : xs.getD i z31 = xs[i] := by simp [List.getD, hi]
 rw [Int.toNat_natCast] at hcc l2 g2
 have e0 := hcc 0 _ rfl
 have e1 := hcc 1 _ rfl
 have e2 := hcc 2 _ rfl
 have k3 : (k31).sz = 3 := rfl
 rw [k3] at e0 e1 e2
 rw [show i * 3 + 0 = i * 3 from rfl] at e0
 rw [add_field _ _ 1 (by omega)] at e1
 rw [add_field _ _ 2 (by omega)] at e2
 rw [e] at e0 e1 e2 l2 g2
 exact ⟨ad, c, A2, c2, rfl, e0, e1, e2, A2, c2, rfl, l2, g2⟩
theorem fresh_ {ok B : Nat → Prop} {w0 W : World} (h : ∀ k, w0.heap.size ≤ k → ok k) (hW : Below w0.heap.size w0 W) (hB : ∀ k, B k → w0.heap.size ≤ k ∧ k < W.heap.size) : ∀ k, W.heap.size ≤ k → ok k ∧ ¬ B k :=
 fun k hk => ⟨h k (Nat.le_trans hW.size hk), fun hb => Nat.lt_irrefl _ (Nat.lt_of_lt_of_le (hB k hb).2 hk)⟩
theorem EXv.old {ok B : Nat → Prop} {w0 W : World} {v : Value} {x : S31} (h : EXv ok w0 v x) (hW : Below w0.heap.size w0 W) (hB : ∀ k, B k → w0.heap.size ≤ k ∧ k < W.heap.size) : EXv (fun k => ok k ∧ ¬ B k) W v x := by
 obtain ⟨A, c, e, hl, hF⟩ := h
 exact ⟨A, c, e, hl, Kd.F_below (Kd.F_mono (Kd.F_bound hF) (fun k hk => ⟨hk.1, fun hb => Nat.lt_irrefl _ (Nat.lt_of_lt_of_le hk.2 (hB k hb).1)⟩)) hW⟩
theorem EXs.old {ok B : Nat → Prop} {w0 W : World} {v : Value} {xs : List S31} (h : EXs ok w0 v xs) (hW : Below w0.heap.size w0 W) (hB : ∀ k, B k → w0.heap.size ≤ k ∧ k < W.heap.size) : EXs (fun k => ok k ∧ ¬ B k) W v xs := by
 obtain ⟨A, c, e, hl, hF⟩ := h
 exact ⟨A, c, e, hl, Kd.F_below (Kd.F_mono (Kd.F_bound hF) (fun k hk => ⟨hk.1, fun hb => Nat.lt_irrefl _ (Nat.lt_of_lt_of_le hk.2 (hB k hb).1)⟩)) hW⟩
theorem fp_move {ok B B' : Nat → Prop} {n : Nat} (hB : ∀ k, B' k → B k ∨ n ≤ k) : ∀ k, (ok k ∧ ¬ B k) ∧ k < n → ok k ∧ ¬ B' k :=
 fun k hk => ⟨hk.1.1, fun h => (hB k h).elim hk.1.2 (fun h2 => Nat.lt_irrefl _ (Nat.lt_of_lt_of_le hk.2 h2))⟩
def VP.ex (ok : Nat → Prop) (x : S31) : VP := ⟨fun B W v => EXv (fun k => ok k ∧ ¬ B k) W v x, fun B B' W W' v hb _ hB h => by
 obtain ⟨A, c, e, hl, hF⟩ := h
 exact ⟨A, c, e, hl, Kd.F_below (Kd.F_mono (Kd.F_bound hF) (fp_move hB)) hb⟩⟩
def VP.exs (ok : Nat → Prop) (xs : List S31) : VP := ⟨fun B W v => EXs (fun k => ok k ∧ ¬ B k) W v xs, fun B B' W W' v hb _ hB h => by
 obtain ⟨A, c, e, hl, hF⟩ := h
 exact ⟨A, c, e, hl, Kd.F_below (Kd.F_mono (Kd.F_bound hF) (fp_move hB)) hb⟩⟩
def VP.box (n : Nat) (cs : Array Value) (ty : TypeId) : VP := ⟨fun B W v => ∃ g, v = .pointer (some ⟨g, 0, none⟩) ∧ n ≤ g ∧ B g ∧ W.heap[g]? = some (.cells cs ty (0, 0)), fun B B' W W' v hb h1 _ h => by
 obtain ⟨g, e, hn, hB, hg⟩ := h
 exact ⟨g, e, hn, h1 g hB, blk_below hg hb⟩⟩
structure Wr (g : Nat) (W W1 : World) : Prop where
 kept : Kept W W1 (fun k => k = g)
 below : ∀ (w0 : World), Below w0.heap.size w0 W → w0.heap.size ≤ g → Below w0.heap.size w0 W1
theorem Wr.set (W : World) (g i : Nat) (u : Value) : Wr g W (W.setCell ⟨g, i, none⟩ u) := ⟨Kept.setCell (S := fun k => k = g) (p := ⟨g, i, none⟩) (Kept.refl W _) (.inl rfl) u, fun _ hb hn => below_set hb hn⟩
theorem Wr.trans {g : Nat} {W W1 W2 : World} (h : Wr g W W1) (k : Wr g W1 W2) : Wr g W W2 := ⟨h.kept.then_ k.kept (fun _ hk => .inl hk), fun w0 hb hn => k.below w0 (h.below w0 hb hn) hn⟩
theorem EXv.kept {ok S : Nat → Prop} {W W1 : World} {v : Value} {x : S31} (h : EXv ok W v x) (hk : Kept W W1 S) (hn : ∀ k, ok k → ¬ S k) : EXv ok W1 v x := by
 obtain ⟨A, c, e, hl, hF⟩ := h
 exact ⟨A, c, e, hl, Kd.F_kept hF hk hn⟩
theorem EXs.kept {ok S : Nat → Prop} {W W1 : World} {v : Value} {xs : List S31} (h : EXs ok W v xs) (hk : Kept W W1 S) (hn : ∀ k, ok k → ¬ S k) : EXs ok W1 v xs := by
 obtain ⟨A, c, e, hl, hF⟩ := h
 exact ⟨A, c, e, hl, Kd.F_kept hF hk hn⟩
theorem box_put3 {W : World} {g : Nat} {u0 u1 u2 a b v : Value} (hb : W.heap[g]? = some (.cells #[u0, u1, u2] 31 (0, 0))) : (((W.setCell ⟨g, 0, none⟩ a).setCell ⟨g, 1, none⟩ b).setCell ⟨g, 2, none⟩ v).heap[g]? = some (.cells #[a, b, v] 31 (0, 0)) ∧ Wr g W (((W.setCell ⟨g, 0, none⟩ a).setCell ⟨g, 1, none⟩ b).setCell ⟨g, 2, none⟩ v) :=
 ⟨blk_put (cs := #[a, b, u2]) (blk_put (cs := #[a, u1, u2]) (blk_put hb 0 a rfl) 1 b rfl) 2 v rfl, ((Wr.set W g 0 _).trans (Wr.set _ g 1 _)).trans (Wr.set _ g 2 _)⟩
section
variable {ops : Array Oper} {Q : Exit → Act → World → Prop} {o : Oper} {b : Act} {W : World} {K : Act → World → Prop} {s s1 s2 s3 : Tmp}
theorem mv_step {u : Value} (hg : o.guard = none) (ho : o.op = .move (.tmp s)) (hu : b.eval (.tmp s) = u) (hK : K (b.put o.dst u) W) :
  if Region.wanted o (yielded ops b.tmps) = true then Oper.wp Try.prog o b W K Q else K (b.put o.dst undef) W := by
 refine value_ (by unfold Region.wanted; rw [hg]) rfl (v := u) (w1 := W) ?_ hK
 unfold execOp
 rw [ho]
 simp only [hu]
 rfl
theorem al_step (hg : o.guard = none) (ho : o.op = .alloc 31) (hK : ∀ W', (∃ g, Value.pointer (some ⟨W.heap.size, 0, none⟩) = .pointer (some ⟨g, 0, none⟩) ∧ W.heap.size ≤ g ∧ g = W.heap.size ∧ W'.heap[g]? = some (.cells #[.int .i64 0, .int .i64 0, .slice none 0 0] 31 (0, 0))) → Below W.heap.size W W' → W.heap.size < W'.heap.size → K (b.put o.dst (.pointer (some ⟨W.heap.size, 0, none⟩))) W') :
  if Region.wanted o (yielded ops b.tmps) = true then Oper.wp Try.prog o b W K Q else K (b.put o.dst undef) W := by
 have hnew := blk_new W (.cells #[.int .i64 0, .int .i64 0, .slice none 0 0] 31)
 refine value_ (by unfold Region.wanted; rw [hg]) rfl (v := .pointer (some ⟨W.heap.size, 0, none⟩)) (w1 := W.alloc (.cells #[.int .i64 0, .int .i64 0, .slice none 0 0] 31)) ?_ (hK _ ⟨_, rfl, Nat.le_refl _, rfl, hnew⟩ (below_alloc (Below.refl _ _) _) (blk_lt hnew))
 have hu31 := Try.underlying31
 unfold execOp
 rw [ho]
 go_simp
theorem ix_step {ad : Addr} {n c i : Nat} (hg : o.guard = none) (ho : o.op = .indexAddr 29 (.tmp s) (.tmp s2)) (hu : b.eval (.tmp s) = .slice (some ad) n c) (hi : b.eval (.tmp s2) = .int .i64 i) (h : i < n) (hn : n ≤ 9223372036854775807) (hK : K (b.put o.dst (.pointer (some (ad.add (i * 3))))) W) :
  if Region.wanted o (yielded ops b.tmps) = true then Oper.wp Try.prog o b W K Q else K (b.put o.dst undef) W := by
 refine value_ (by unfold Region.wanted; rw [hg]) rfl (v := .pointer (some (ad.add (i * 3)))) (w1 := W) ?_ hK
 have h0 : (0 : Int) ≤ (i : Int) := by omega
 have h1 : (i : Int) < (n : Int) := by omega
 unfold execOp
 rw [ho]
 simp only [hu, hi]
 go_simp
theorem ld_step {ad : Addr} {f0 f1 : Int} {v2 : Value} (hg : o.guard = none) (ho : o.op = .load 31 (.tmp s)) (hu : b.eval (.tmp s) = .pointer (some ad)) (h0 : W.cell? ad = some (.int .i64 f0)) (h1 : W.cell? ⟨ad.block, ad.off + 1, none⟩ = some (.int .i64 f1)) (h2 : W.cell? ⟨ad.block, ad.off + 2, none⟩ = some v2) (hK : K (b.put o.dst (.agg #[.int .i64 f0, .int .i64 f1, v2])) W) :
  if Region.wanted o (yielded ops b.tmps) = true then Oper.wp Try.prog o b W K Q else K (b.put o.dst undef) W := by
 refine value_ (by unfold Region.wanted; rw [hg]) rfl (v := .agg #[.int .i64 f0, .int .i64 f1, v2]) (w1 := W) ?_ hK
 have hu31 := Try.underlying31
 unfold execOp
 rw [ho]
 simp only [hu]
 go_simp
theorem tm_eval {b : Act} {t : Tmp} {v : Value} (h : b.eval (.tmp t) = v) : b.tmps[t]?.getD undef = v := by
 rw [← h]
 simp [Act.eval]
theorem bs1_step {N : Tmp} {ok : Nat → Prop} {x : S31} (hd : o.dst = some N) (hg : o.guard = none) (ho : o.op = .buildSlice 29 1 #[(0, .tmp s1)]) (h1 : EXv ok W (b.eval (.tmp s1)) x) (hok : ok W.heap.size)
  (hK : ∀ v W', EXs ok W' v [x] → Below W.heap.size W W' → K (b.put o.dst v) W') :
  if Region.wanted o (yielded ops b.tmps) = true then Oper.wp Try.prog o b W K Q else K (b.put o.dst undef) W := by
 obtain ⟨A1, c1, e1, l1, F1⟩ := h1
 replace e1 := tm_eval e1
 refine Kd.N_lit_step (P := Try.prog) (ops := ops) (Q := Q) (Kc := K) (a := b) (o := o) k31 (w0 := W) W.heap.size 31 (by unfold Region.wanted; rw [hg]) hd (xs := [x]) (inner := [.int .i64 x.f0, .int .i64 x.f1, .slice A1 x.f2.length c1]) (ok := ok) (okp := ok) ?hr ?hp (fun _ hk => hk) hok (Below.refl _ _) (Nat.le_refl _) (by simp) ?_
 ·unfold execOp
  rw [ho]
  have hu29 := Try.underlying29
  have hu31 := Try.underlying31
  go_simp
 ·exact (Reps.c3 (k31_mkF _ _ x l1 F1) (Reps.none _ _))
 ·intro v W' hN hb _ _
  exact hK v W' (EXs.of (b := 0) (Kd.N_V hN)) hb
theorem bs2_step {N : Tmp} {ok : Nat → Prop} {x y : S31} (hd : o.dst = some N) (hg : o.guard = none) (ho : o.op = .buildSlice 29 2 #[(0, .tmp s1), (1, .tmp s2)]) (h1 : EXv ok W (b.eval (.tmp s1)) x) (h2 : EXv ok W (b.eval (.tmp s2)) y) (hok : ok W.heap.size)
  (hK : ∀ v W', EXs ok W' v [x, y] → Below W.heap.size W W' → K (b.put o.dst v) W') :
  if Region.wanted o (yielded ops b.tmps) = true then Oper.wp Try.prog o b W K Q else K (b.put o.dst undef) W := by
 obtain ⟨A1, c1, e1, l1, F1⟩ := h1
 replace e1 := tm_eval e1
 obtain ⟨A2, c2, e2, l2, F2⟩ := h2
 replace e2 := tm_eval e2
 refine Kd.N_lit_step (P := Try.prog) (ops := ops) (Q := Q) (Kc := K) (a := b) (o := o) k31 (w0 := W) W.heap.size 31 (by unfold Region.wanted; rw [hg]) hd (xs := [x, y]) (inner := [.int .i64 x.f0, .int .i64 x.f1, .slice A1 x.f2.length c1, .int .i64 y.f0, .int .i64 y.f1, .slice A2 y.f2.length c2]) (ok := ok) (okp := ok) ?hr ?hp (fun _ hk => hk) hok (Below.refl _ _) (Nat.le_refl _) (by simp) ?_
 ·unfold execOp
  rw [ho]
  have hu29 := Try.underlying29
  have hu31 := Try.underlying31
  go_simp
 ·exact (Reps.c3 (k31_mkF _ _ x l1 F1) (Reps.c3 (k31_mkF _ _ y l2 F2) (Reps.none _ _)))
 ·intro v W' hN hb _ _
  exact hK v W' (EXs.of (b := 0) (Kd.N_V hN)) hb
theorem bs3_step {N : Tmp} {ok : Nat → Prop} {x y z : S31} (hd : o.dst = some N) (hg : o.guard = none) (ho : o.op = .buildSlice 29 3 #[(0, .tmp s1), (1, .tmp s2), (2, .tmp s3)]) (h1 : EXv ok W (b.eval (.tmp s1)) x) (h2 : EXv ok W (b.eval (.tmp s2)) y) (h3 : EXv ok W (b.eval (.tmp s3)) z) (hok : ok W.heap.size)
  (hK : ∀ v W', EXs ok W' v [x, y, z] → Below W.heap.size W W' → K (b.put o.dst v) W') :
  if Region.wanted o (yielded ops b.tmps) = true then Oper.wp Try.prog o b W K Q else K (b.put o.dst undef) W := by
 obtain ⟨A1, c1, e1, l1, F1⟩ := h1
 replace e1 := tm_eval e1
 obtain ⟨A2, c2, e2, l2, F2⟩ := h2
 replace e2 := tm_eval e2
 obtain ⟨A3, c3, e3, l3, F3⟩ := h3
 replace e3 := tm_eval e3
 refine Kd.N_lit_step (P := Try.prog) (ops := ops) (Q := Q) (Kc := K) (a := b) (o := o) k31 (w0 := W) W.heap.size 31 (by unfold Region.wanted; rw [hg]) hd (xs := [x, y, z]) (inner := [.int .i64 x.f0, .int .i64 x.f1, .slice A1 x.f2.length c1, .int .i64 y.f0, .int .i64 y.f1, .slice A2 y.f2.length c2, .int .i64 z.f0, .int .i64 z.f1, .slice A3 z.f2.length c3]) (ok := ok) (okp := ok) ?hr ?hp (fun _ hk => hk) hok (Below.refl _ _) (Nat.le_refl _) (by simp) ?_
 ·unfold execOp
  rw [ho]
  have hu29 := Try.underlying29
  have hu31 := Try.underlying31
  go_simp
 ·exact (Reps.c3 (k31_mkF _ _ x l1 F1) (Reps.c3 (k31_mkF _ _ y l2 F2) (Reps.c3 (k31_mkF _ _ z l3 F3) (Reps.none _ _))))
 ·intro v W' hN hb _ _
  exact hK v W' (EXs.of (b := 0) (Kd.N_V hN)) hb
theorem ex_step {ok : Nat → Prop} {kind : Int} {xs : List S31} {ts : Array TypeId} {N : Tmp} (hd : o.dst = some N) (hg : o.guard = none) (ho : o.op = .call { callee := .value (.func 89), args := #[.const (.int .i64 kind), .tmp s], argTypes := ts }) (h : EXs ok W (b.eval (.tmp s)) xs) (hok : ∀ k, W.heap.size ≤ k → ok k)
  (hK : ∀ v W', EXv ok W' v ⟨kind, 0, xs⟩ → Below W.heap.size W W' → K (b.put o.dst v) W') :
  if Region.wanted o (yielded ops b.tmps) = true then Oper.wp Try.prog o b W K Q else K (b.put o.dst undef) W := by
 obtain ⟨A, c, e, hl, hF⟩ := h
 refine goes_ Try.func89 (by kernel_rfl) rfl #[.int .i64 kind, .slice A xs.length c] (by unfold Region.wanted; rw [hg]) rfl ho (by simp only [List.map_toArray, List.map_cons, List.map_nil, e]; rfl) ?_
 refine (impl_ex.calls kind ok A c xs kind 0 xs W (Kd.V_mk hl hF) rfl).mono ?_
 rintro e w' ⟨v2, rfl, hv, hb⟩
 exact ⟨_, rfl, hK _ _ (EXv.of (b := 0) (Kd.V_mono (base := 0) hv (fun k hk => hk.elim id (hok k)))) hb⟩
theorem st_step {g : Nat} {f0 f1 : Int} {u0 u1 u2 : Value} {A : Option Addr} {n c : Nat} (hd : o.dst = none) (hg : o.guard = none) (ho : o.op = .store 31 (.tmp s) (.tmp s2)) (hu : b.eval (.tmp s) = .pointer (some ⟨g, 0, none⟩)) (hv : b.eval (.tmp s2) = .agg #[.int .i64 f0, .int .i64 f1, (.slice A n c)]) (hb : W.heap[g]? = some (.cells #[u0, u1, u2] 31 (0, 0)))
  (hK : ∀ W', W'.heap[g]? = some (.cells #[.int .i64 f0, .int .i64 f1, (.slice A n c)] 31 (0, 0)) → Wr g W W' → K b W') :
  if Region.wanted o (yielded ops b.tmps) = true then Oper.wp Try.prog o b W K Q else K (b.put o.dst undef) W := by
 have hc0 := (blk_cell hb 0).trans (show _ = some u0 from rfl)
 have hc1 := (blk_cell hb 1).trans (show _ = some u1 from rfl)
 have hc2 := (blk_cell hb 2).trans (show _ = some u2 from rfl)
 have hf0 := blk_frozen hb 0
 have hf1 := blk_frozen hb 1
 have hf2 := blk_frozen hb 2
 have hu31 := Try.underlying31
 have huu := tm_eval hu
 have hvv := tm_eval hv
 rw [show b.put o.dst undef = b.put none undef by rw [hd]]
 refine skip_ (w1 := ((W.setCell ⟨g, 0, none⟩ (.int .i64 f0)).setCell ⟨g, 1, none⟩ (.int .i64 f1)).setCell ⟨g, 2, none⟩ (.slice A n c)) (by unfold Region.wanted; rw [hg]) hd ?_ ?_
 ·unfold execOp
  rw [ho]
  go_simp
 ·refine hK _ (blk_put (cs := #[.int .i64 f0, .int .i64 f1, u2]) (blk_put (cs := #[.int .i64 f0, u1, u2]) (blk_put hb 0 (.int .i64 f0) rfl) 1 (.int .i64 f1) rfl) 2 (.slice A n c) rfl) ?_
  exact ((Wr.set W g 0 _).trans (Wr.set _ g 1 _)).trans (Wr.set _ g 2 _)
theorem st_stepE {ok : Nat → Prop} {x : S31} {g : Nat} {u0 u1 u2 : Value} (hd : o.dst = none) (hg : o.guard = none) (ho : o.op = .store 31 (.tmp s) (.tmp s2)) (hu : b.eval (.tmp s) = .pointer (some ⟨g, 0, none⟩)) (hv : EXv ok W (b.eval (.tmp s2)) x) (hb : W.heap[g]? = some (.cells #[u0, u1, u2] 31 (0, 0)))
  (hK : ∀ W' A c, W'.heap[g]? = some (.cells #[.int .i64 x.f0, .int .i64 x.f1, .slice A x.f2.length c] 31 (0, 0)) → EXv ok W (.agg #[.int .i64 x.f0, .int .i64 x.f1, .slice A x.f2.length c]) x → Wr g W W' → K b W') :
  if Region.wanted o (yielded ops b.tmps) = true then Oper.wp Try.prog o b W K Q else K (b.put o.dst undef) W := by
 obtain ⟨A, c, e, hl, hF⟩ := hv
 exact st_step hd hg ho hu e hb (fun W' h1 h2 => hK W' A c h1 ⟨A, c, rfl, hl, hF⟩ h2)
theorem sx_step {ok : Nat → Prop} {kind : Int} {xs : List S31} {ts : Array TypeId} {N : Tmp} (hd : o.dst = some N) (hg : o.guard = none) (ho : o.op = .call { callee := .value (.func 85), args := #[.const (.int .i64 kind), .tmp s], argTypes := ts }) (h : EXs ok W (b.eval (.tmp s)) xs) (hok : ∀ k, W.heap.size ≤ k → ok k)
  (hK : ∀ v W', EXv ok W' v ⟨kind, 0, xs⟩ → Below W.heap.size W W' → K (b.put o.dst v) W') :
  if Region.wanted o (yielded ops b.tmps) = true then Oper.wp Try.prog o b W K Q else K (b.put o.dst undef) W := by
 obtain ⟨A, c, e, hl, hF⟩ := h
 refine goes_ Try.func85 (by kernel_rfl) rfl #[.int .i64 kind, .slice A xs.length c] (by unfold Region.wanted; rw [hg]) rfl ho (by simp only [List.map_toArray, List.map_cons, List.map_nil, e]; rfl) ?_
 refine (spec_l05Ex.calls kind ok A c xs kind 0 xs W (Kd.V_mk hl hF) rfl).mono ?_
 rintro e w' ⟨v2, rfl, hv, hb⟩
 exact ⟨_, rfl, hK _ _ (EXv.of (b := 0) (Kd.V_mono (base := 0) hv (fun k hk => hk.elim id (hok k)))) hb⟩
theorem cp_step {kf : Nat} {ok : Nat → Prop} {x : S31} {ts : Array TypeId} {N : Tmp} (hd : o.dst = some N) (hg : o.guard = none) (ho : o.op = .call { callee := .value (.func 86), args := #[.tmp s], argTypes := ts }) (h : EXv ok W (b.eval (.tmp s)) x) (hc : spec_l05Copy.f kf x.f0 x.f1 x.f2 = some (x.f0, x.f1, x.f2)) (hok : ∀ k, W.heap.size ≤ k → ok k)
  (hK : ∀ v W', EXv ok W' v x → Below W.heap.size W W' → K (b.put o.dst v) W') :
  if Region.wanted o (yielded ops b.tmps) = true then Oper.wp Try.prog o b W K Q else K (b.put o.dst undef) W := by
 obtain ⟨A, c, e, hl, hF⟩ := h
 refine goes_ Try.func86 (by kernel_rfl) rfl #[.agg #[.int .i64 x.f0, .int .i64 x.f1, .slice A x.f2.length c]] (by unfold Region.wanted; rw [hg]) rfl ho (by simp only [List.map_toArray, List.map_cons, List.map_nil, e]) ?_
 refine (spec_l05Copy.calls kf x.f0 x.f1 A c x.f2 x.f0 x.f1 x.f2 W (Kd.F_now hF) hl hc).mono ?_
 rintro e w' ⟨v2, rfl, hv, hb⟩
 exact ⟨_, rfl, hK _ _ (EXv.of (b := 0) (Kd.R_V (Kd.R_mono (Kd.R_bound hv) (fun k hk => hok k hk.2.1)))) hb⟩
end
theorem EXv.eval {ok : Nat → Prop} {W : World} {v u : Value} {x : S31} (e : u = v) (h : EXv ok W v x) : EXv ok W u x := by
 rw [e]
 exact h
def lessAcc : List S31 → List S31 → S31 → S31
 | [], _, e => e
 | _ :: _, [], e => e
 | x :: r, y :: s, e => lessAcc r s ⟨5, 0, [⟨4, 0, [⟨3, 0, [x]⟩, y]⟩, ⟨4, 0, [⟨3, 0, [⟨6, 0, [x, y]⟩]⟩, e]⟩]⟩
def lessE (a b : List S31) : S31 := lessAcc a b ⟨2, 0, []⟩
def less_T : Bool × List (List Nat × List Nat) := (true, [([], []), ([], []), ([0, 1], [0, 1]), ([2], [2]), ([3], [3]), ([4], [4]), ([], []), ([], []), ([6, 7], [6, 7]), ([8], [8]), ([5, 9], [5, 9]), ([10, 5], [10]), ([], []), ([], []), ([12, 13], [12, 13]), ([14], [14]), ([], []), ([], []), ([16, 17], [16, 17]), ([18], [18]), ([15, 19], [15, 19]), ([20, 11], [20]), ([21], [21]), ([22, 21], [22]), ([], []), ([23, 24], [23, 24]), ([25, 23], [25]), ([11, 26], [11, 26]), ([27, 26], [27]), ([28, 28, 0, 1, 2, 3, 4, 5, 6, 7, 8, 9, 10, 11, 12, 13, 14, 15, 16, 17, 18, 19, 20, 21, 22, 23, 24, 25, 26, 27, 28], [28])])
theorem less_tab : rtab .any (opsOf Try.f91 5) = less_T := by kernel_rfl
set_option maxHeartbeats 4000000 in
set_option maxRecDepth 100000 in
theorem less_any (ok : Nat → Prop) (va vb : Value) (a b : List S31) (hlen : a.length ≤ b.length) (w : World) (ha : EXs ok w va a) (hb : EXs ok w vb b) (hok : ∀ k, w.heap.size ≤ k → ok k) :
  Calls Try.prog 91 #[va, vb] w fun e w' => ∃ u, e = .returned u ∧ EXv ok w' u (lessE a b) ∧ Below w.heap.size w w' := by
 have hu31 := Try.underlying31
 have hu29 := Try.underlying29
 obtain ⟨Aa, ca, rfl, la, Fa⟩ := ha
 obtain ⟨Ab, cb, rfl, lb, Fb⟩ := hb
 have HA := Aside0.mk (show EXs (fun k => ok k ∧ k < w.heap.size) w (.slice Aa a.length ca) a from ⟨_, _, rfl, la, Kd.F_bound Fa⟩)
 have HBb := Aside0.mk (show EXs (fun k => ok k ∧ k < w.heap.size) w (.slice Ab b.length cb) b from ⟨_, _, rfl, lb, Kd.F_bound Fb⟩)
 have hma : a.length ≤ 9223372036854775807 := Kd.F_max Fa
 have hmb : b.length ≤ 9223372036854775807 := Kd.F_max Fb
 have HB := Aside0.mk (Below.refl w.heap.size w)
 clear Fa Fb la lb
 go_enter Try.func91, Try.ntmps91
 go_upto_region 1 with (first | ((with_reducible refine gate_dst (N := 4) rfl ?_); refine box_event ?hg (N := 4) ?hd (cs := #[.int .i64 0, .int .i64 0, .slice none 0 0]) (t := 31) ?hr ?_; (case hd => rfl); (case hg => rfl); (case hr => first | (go_simp; done) | (go_simp; rfl)); intro gr hgw wb hbox hbb; have HR := Aside0.mk (And.intro hbox (show w.heap.size ≤ gr by rw [hgw]; exact HB.out.size)); have hb_ := hbb; clear hbox hgw; have mB_ := Aside0.mk (HB.out.trans (hb_.mono HB.out.size)); clear HB; have HB := mB_; clear mB_; clear hb_ hbb))
 go_wp2_with (first
  | (go_at_call 88; refine (impl_constEx.calls 0 2 0 [] _ rfl).mono ?_; rintro e w1 ⟨v0, rfl, hr0, hb0⟩; have HB0 := Aside0.mk HB.out.size; have HR0 := Aside0.mk (blk_lt HR.out.1); have mB_ := Aside0.mk (HB.out.trans (hb0.mono HB.out.size)); clear HB; have HB := mB_; clear mB_; have mR_ := Aside0.mk (And.intro (blk_below HR.out.1 hb0) HR.out.2); clear HR; have HR := mR_; clear mR_; have H0 := Aside0.mk (show EXv (fun k => (ok k ∧ k ≠ gr)) w1 (.agg #[.int .i64 2, .int .i64 0, v0]) ⟨2, 0, []⟩ from EXv.of (b := 0) (Kd.R_V (Kd.R_mono (Kd.R_bound hr0) (fun k_ hk_ => ⟨hok k_ (Nat.le_trans HB0.out hk_.2.1), Nat.ne_of_gt (Nat.lt_of_lt_of_le HR0.out hk_.2.1)⟩)))); obtain ⟨A0, c0, e0⟩ := Kd.R_slice hr0; subst e0; clear hr0 hb0)
  | ((with_reducible refine gate_dst (N := 5) rfl ?_); refine box_event ?hg (N := 5) ?hd (cs := #[.int .i64 0, .int .i64 0, .slice none 0 0]) (t := 31) ?hr ?_; (case hd => rfl); (case hg => rfl); (case hr => first | (go_simp; done) | (go_simp; rfl)); intro g hgw wb hbox hbb; have HG0 := Aside0.mk hbox; have HG := Aside0.mk (show w.heap.size ≤ g by rw [hgw]; exact HB.out.size); have HGe := Aside0.mk hgw; have HRG := Aside0.mk (show gr ≠ g by rw [hgw]; exact Nat.ne_of_lt (blk_lt HR.out.1)); have hb_ := hbb; clear hbox hgw; have mB_ := Aside0.mk (HB.out.trans (hb_.mono HB.out.size)); clear HB; have HB := mB_; clear mB_; have mR_ := Aside0.mk (And.intro (blk_below HR.out.1 hb_) HR.out.2); clear HR; have HR := mR_; clear mR_; have m0_ := Aside0.mk (show EXv (fun k => (ok k ∧ k ≠ gr) ∧ k ≠ g) wb _ _ from EXv.move (W := w1) (by obtain ⟨A_, c_, e_, l_, F_⟩ := H0.out; exact ⟨A_, c_, e_, l_, Kd.F_mono (Kd.F_bound F_) (fun k_ hk_ => ⟨hk_.1, by rw [HGe.out]; exact Nat.ne_of_lt hk_.2⟩)⟩) hb_); clear H0; have H0 := m0_; clear m0_ hb_ hbb)
  | ((with_reducible refine gate_store (t := 31) (p := 5) rfl ?_); have hc0 := (blk_cell HG0.out 0).trans (show _ = some (.int .i64 0) from rfl); have hc1 := (blk_cell HG0.out 1).trans (show _ = some (.int .i64 0) from rfl); have hc2 := (blk_cell HG0.out 2).trans (show _ = some (.slice none 0 0) from rfl); have hf0 := blk_frozen HG0.out 0; have hf1 := blk_frozen HG0.out 1; have hf2 := blk_frozen HG0.out 2; refine store_event (t := 31) (p := 5) (v := ?vo) (w1 := ((wb.setCell ⟨g, 0, none⟩ (.int .i64 2)).setCell ⟨g, 1, none⟩ (.int .i64 0)).setCell ⟨g, 2, none⟩ (.slice A0 0 c0)) ?hg ?ho ?hn ?hr ?_; (case ho => rfl); (case hg => rfl); (case hn => rfl); (case hr => first | (go_simp; done) | (go_simp; rfl)); clear hc0 hc1 hc2 hf0 hf1 hf2; intro w2 hw_; obtain ⟨hbk, hkb⟩ := box_put3 (a := .int .i64 2) (b := .int .i64 0) (v := .slice A0 0 c0) HG0.out; rw [← hw_] at hbk hkb; clear hw_))
 have HL := Aside0.mk (show EXv (fun k => (ok k ∧ k ≠ gr) ∧ k ≠ g) w2 (.agg #[.int .i64 2, .int .i64 0, .slice A0 0 c0]) ⟨2, 0, []⟩ from EXv.kept H0.out hkb.kept (fun k hk hs => hk.2 hs))
 have HR2 := Aside0.mk (blk_kept HR.out.1 hkb.kept (fun h => HRG.out h))
 have HB2 := Aside0.mk (hkb.below _ HB.out HG.out)
 have HRl := Aside0.mk HR.out.2
 have HA2 := Aside0.mk (EXs.move HA.out HB2.out)
 have HC2 := Aside0.mk (EXs.move HBb.out HB2.out)
 have HBK := Aside0.mk hbk
 clear HA HBb HB HR HG0 HGe H0 hkb hbk
 
 go_loopg [10] a.length (fun gg vi wr => ∃ (kk : Nat) (e : S31) (A : Option Addr) (c : Nat), vi = .int .i64 kk ∧ kk ≤ a.length ∧ a.length - kk ≤ gg ∧ Aside0 (lessAcc (a.drop kk) (b.drop kk) e = lessE a b) ∧ Aside0 (wr.heap[g]? = some (.cells #[.int .i64 e.f0, .int .i64 e.f1, .slice A e.f2.length c] 31 (0, 0))) ∧ Aside0 (wr.heap[gr]? = some (.cells #[.int .i64 0, .int .i64 0, .slice none 0 0] 31 (0, 0))) ∧ Aside0 (EXv (fun k => (ok k ∧ k ≠ gr) ∧ k ≠ g) wr (.agg #[.int .i64 e.f0, .int .i64 e.f1, .slice A e.f2.length c]) e) ∧ Aside0 (EXs (fun k => ok k ∧ k < w.heap.size) wr (.slice Aa a.length ca) a) ∧ Aside0 (EXs (fun k => ok k ∧ k < w.heap.size) wr (.slice Ab b.length cb) b) ∧ Aside0 (Below w.heap.size w wr))
 case atStart => exact ⟨0, ⟨2, 0, []⟩, A0, c0, rfl, Nat.zero_le _, by omega, ⟨by rw [List.drop_zero, List.drop_zero]; rfl⟩, HBK, HR2, HL, HA2, HC2, HB2⟩
 case round =>
  clear HL HR2 HB2 HA2 HC2 HBK
  obtain ⟨kk, e, A, c, rfl, hk, hgm, HE, HBK, HR, HL, HA, HC, HB⟩ := hrel
  by_cases hlt : kk < a.length
  ·have hltz : (kk : Int) < (a.length : Int) := by omega
   have h0z : (0 : Int) ≤ (kk : Int) := by omega
   have hia : kk < a.length := hlt
   have hib : kk < b.length := by omega
   have ew : IntKind.i64.wrap ((kk : Int) + 1) = ((kk + 1 : Nat) : Int) := IntWalk.i64_in _ (by omega)
   have hE := HE.out
   rw [List.drop_eq_getElem_cons hia, List.drop_eq_getElem_cons hib, lessAcc] at hE
   have HE2 := Aside0.mk hE
   clear hE HE
   obtain ⟨ada, ca_, Ax, cx, exa, xa0, xa1, xa2, xva⟩ := HA.out.at kk hia
   cases exa
   obtain ⟨adb, cb_, Ay, cy, exb, xb0, xb1, xb2, xvb⟩ := HC.out.at kk hib
   cases exb
   have hgs := Aside0.mk (blk_lt HBK.out)
   have hrs := Aside0.mk (blk_lt HR.out)
   have hws := Aside0.mk HB.out.size
   have Hxa := Aside0.mk (And.intro xa0 (And.intro xa1 (And.intro xa2 xva)))
   have Hxb := Aside0.mk (And.intro xb0 (And.intro xb1 (And.intro xb2 xvb)))
   clear xa0 xa1 xa2 xva xb0 xb1 xb2 xvb
   go_wp2
   have cm : ∀ (W : World) {p : Addr} {v : Value}, Below wr.drew.heap.size wr.drew W → wr.cell? p = some v → W.cell? p = some v := fun W p v hW hx => (hW.cell (World.block_lt_of_cell? _ _ hx)).trans hx
   have ca0 := fun (W : World) (hW : Below wr.drew.heap.size wr.drew W) => cm W hW Hxa.out.1
   have ca1 := fun (W : World) (hW : Below wr.drew.heap.size wr.drew W) => cm W hW Hxa.out.2.1
   have ca2 := fun (W : World) (hW : Below wr.drew.heap.size wr.drew W) => cm W hW Hxa.out.2.2.1
   have cb0 := fun (W : World) (hW : Below wr.drew.heap.size wr.drew W) => cm W hW Hxb.out.1
   have cb1 := fun (W : World) (hW : Below wr.drew.heap.size wr.drew W) => cm W hW Hxb.out.2.1
   have cb2 := fun (W : World) (hW : Below wr.drew.heap.size wr.drew W) => cm W hW Hxb.out.2.2.1
   have cg0 := fun (W : World) (hW : Below wr.drew.heap.size wr.drew W) => cm W hW ((blk_cell HBK.out 0).trans (show _ = some (.int .i64 e.f0) from rfl))
   have cg1 := fun (W : World) (hW : Below wr.drew.heap.size wr.drew W) => cm W hW ((blk_cell HBK.out 1).trans (show _ = some (.int .i64 e.f1) from rfl))
   have cg2 := fun (W : World) (hW : Below wr.drew.heap.size wr.drew W) => cm W hW ((blk_cell HBK.out 2).trans (show _ = some (.slice A e.f2.length c) from rfl))
   obtain ⟨ok2, hok2e⟩ : ∃ ok2 : Nat → Prop, ok2 = fun k => (ok k ∧ k ≠ gr) ∧ k ≠ g := ⟨_, rfl⟩
   have hno : ∀ k, ok k ∧ k < w.heap.size → ok2 k := fun k hk => by rw [hok2e]; exact ⟨⟨hk.1, Nat.ne_of_lt (Nat.lt_of_lt_of_le hk.2 HRl.out)⟩, Nat.ne_of_lt (Nat.lt_of_lt_of_le hk.2 HG.out)⟩
   have eva : EXv ok2 wr.drew _ _ := EXv.move (EXv.mono Hxa.out.2.2.2 hno) (below_drew (Below.refl _ _))
   have evb : EXv ok2 wr.drew _ _ := EXv.move (EXv.mono Hxb.out.2.2.2 hno) (below_drew (Below.refl _ _))
   have eve : EXv ok2 wr.drew _ _ := EXv.move (EXv.mono HL.out (fun k hk => by rw [hok2e]; exact hk)) (below_drew (Below.refl _ _))
   have hok2 : ∀ k, wr.drew.heap.size ≤ k → ok2 k := fun k hk => by rw [hok2e]; exact ⟨⟨hok k (Nat.le_trans hws.out hk), Nat.ne_of_gt (Nat.lt_of_lt_of_le hrs.out hk)⟩, Nat.ne_of_gt (Nat.lt_of_lt_of_le hgs.out hk)⟩
   refine any_region [some 13, some 14, some 15, some 16, some 17, some 18, some 19, some 20, some 21, some 22, some 23, some 24, some 25, some 26, some 27, some 28, some 29, some 30, some 31, some 32, some 33, some 34, some 35, some 36, some 37, some 38, some 39, some 40, some 41, none] 44 29 [VP.eq (.slice (some ada) a.length ca), VP.eq (.int .i64 (kk : Int)), VP.eq (.pointer (some (ada.add (kk * 3)))), VP.ex ok2 (a[kk]), VP.exs ok2 ([a[kk]]), VP.ex ok2 (⟨3, 0, [a[kk]]⟩), VP.eq (.slice (some adb) b.length cb), VP.eq (.int .i64 (kk : Int)), VP.eq (.pointer (some (adb.add (kk * 3)))), VP.ex ok2 (b[kk]), VP.exs ok2 ([⟨3, 0, [a[kk]]⟩, b[kk]]), VP.ex ok2 (⟨4, 0, [⟨3, 0, [a[kk]]⟩, b[kk]]⟩), VP.eq (.slice (some ada) a.length ca), VP.eq (.int .i64 (kk : Int)), VP.eq (.pointer (some (ada.add (kk * 3)))), VP.ex ok2 (a[kk]), VP.eq (.slice (some adb) b.length cb), VP.eq (.int .i64 (kk : Int)), VP.eq (.pointer (some (adb.add (kk * 3)))), VP.ex ok2 (b[kk]), VP.exs ok2 ([a[kk], b[kk]]), VP.ex ok2 (⟨6, 0, [a[kk], b[kk]]⟩), VP.exs ok2 ([⟨6, 0, [a[kk], b[kk]]⟩]), VP.ex ok2 (⟨3, 0, [⟨6, 0, [a[kk], b[kk]]⟩]⟩), VP.ex ok2 (e), VP.exs ok2 ([⟨3, 0, [⟨6, 0, [a[kk], b[kk]]⟩]⟩, e]), VP.ex ok2 (⟨4, 0, [⟨3, 0, [⟨6, 0, [a[kk], b[kk]]⟩]⟩, e]⟩), VP.exs ok2 ([⟨4, 0, [⟨3, 0, [a[kk]]⟩, b[kk]]⟩, ⟨4, 0, [⟨3, 0, [⟨6, 0, [a[kk], b[kk]]⟩]⟩, e]⟩]), VP.ex ok2 (⟨5, 0, [⟨4, 0, [⟨3, 0, [a[kk]]⟩, b[kk]]⟩, ⟨4, 0, [⟨3, 0, [⟨6, 0, [a[kk], b[kk]]⟩]⟩, e]⟩]⟩)] rfl less_tab rfl rfl (by kernel_rfl) rfl ⟨?_, ?_, ?_, ?_, ?_, ?_, ?_, ?_, ?_, ?_, ?_, ?_, ?_, ?_, ?_, ?_, ?_, ?_, ?_, ?_, ?_, ?_, ?_, ?_, ?_, ?_, ?_, ?_, ?_, trivial⟩ ?_
   ·intro b W B hW hB hb hd K hK hK2; exact mv_step rfl rfl (hb 0 (by kernel_rfl)) (hK _ _ rfl (Below.refl _ _))
   ·intro b W B hW hB hb hd K hK hK2; exact mv_step rfl rfl (hb 6 (by kernel_rfl)) (hK _ _ rfl (Below.refl _ _))
   ·intro b W B hW hB hb hd K hK hK2; exact ix_step rfl rfl (hd 0 13 (by kernel_rfl) rfl) (hd 1 14 (by kernel_rfl) rfl) hia hma (hK _ _ rfl (Below.refl _ _))
   ·intro b W B hW hB hb hd K hK hK2; exact ld_step rfl rfl (hd 2 15 (by kernel_rfl) rfl) (ca0 W hW) (ca1 W hW) (ca2 W hW) (hK _ _ (EXv.old eva hW hB) (Below.refl _ _))
   ·intro b W B hW hB hb hd K hK hK2; exact bs1_step rfl rfl rfl (hd 3 16 (by kernel_rfl) rfl) (fresh_ hok2 hW hB _ (Nat.le_refl _)) (fun v W' hv hb => hK v W' hv hb)
   ·intro b W B hW hB hb hd K hK hK2; exact ex_step rfl rfl rfl (hd 4 17 (by kernel_rfl) rfl) (fresh_ hok2 hW hB) (fun v W' hv hb => hK v W' hv hb)
   ·intro b W B hW hB hb hd K hK hK2; exact mv_step rfl rfl (hb 1 (by kernel_rfl)) (hK _ _ rfl (Below.refl _ _))
   ·intro b W B hW hB hb hd K hK hK2; exact mv_step rfl rfl (hb 6 (by kernel_rfl)) (hK _ _ rfl (Below.refl _ _))
   ·intro b W B hW hB hb hd K hK hK2; exact ix_step rfl rfl (hd 6 19 (by kernel_rfl) rfl) (hd 7 20 (by kernel_rfl) rfl) hib hmb (hK _ _ rfl (Below.refl _ _))
   ·intro b W B hW hB hb hd K hK hK2; exact ld_step rfl rfl (hd 8 21 (by kernel_rfl) rfl) (cb0 W hW) (cb1 W hW) (cb2 W hW) (hK _ _ (EXv.old evb hW hB) (Below.refl _ _))
   ·intro b W B hW hB hb hd K hK hK2; exact bs2_step rfl rfl rfl (hd 5 18 (by kernel_rfl) rfl) (hd 9 22 (by kernel_rfl) rfl) (fresh_ hok2 hW hB _ (Nat.le_refl _)) (fun v W' hv hb => hK v W' hv hb)
   ·intro b W B hW hB hb hd K hK hK2; exact ex_step rfl rfl rfl (hd 10 23 (by kernel_rfl) rfl) (fresh_ hok2 hW hB) (fun v W' hv hb => hK v W' hv hb)
   ·intro b W B hW hB hb hd K hK hK2; exact mv_step rfl rfl (hb 0 (by kernel_rfl)) (hK _ _ rfl (Below.refl _ _))
   ·intro b W B hW hB hb hd K hK hK2; exact mv_step rfl rfl (hb 6 (by kernel_rfl)) (hK _ _ rfl (Below.refl _ _))
   ·intro b W B hW hB hb hd K hK hK2; exact ix_step rfl rfl (hd 12 25 (by kernel_rfl) rfl) (hd 13 26 (by kernel_rfl) rfl) hia hma (hK _ _ rfl (Below.refl _ _))
   ·intro b W B hW hB hb hd K hK hK2; exact ld_step rfl rfl (hd 14 27 (by kernel_rfl) rfl) (ca0 W hW) (ca1 W hW) (ca2 W hW) (hK _ _ (EXv.old eva hW hB) (Below.refl _ _))
   ·intro b W B hW hB hb hd K hK hK2; exact mv_step rfl rfl (hb 1 (by kernel_rfl)) (hK _ _ rfl (Below.refl _ _))
   ·intro b W B hW hB hb hd K hK hK2; exact mv_step rfl rfl (hb 6 (by kernel_rfl)) (hK _ _ rfl (Below.refl _ _))
   ·intro b W B hW hB hb hd K hK hK2; exact ix_step rfl rfl (hd 16 29 (by kernel_rfl) rfl) (hd 17 30 (by kernel_rfl) rfl) hib hmb (hK _ _ rfl (Below.refl _ _))
   ·intro b W B hW hB hb hd K hK hK2; exact ld_step rfl rfl (hd 18 31 (by kernel_rfl) rfl) (cb0 W hW) (cb1 W hW) (cb2 W hW) (hK _ _ (EXv.old evb hW hB) (Below.refl _ _))
   ·intro b W B hW hB hb hd K hK hK2; exact bs2_step rfl rfl rfl (hd 15 28 (by kernel_rfl) rfl) (hd 19 32 (by kernel_rfl) rfl) (fresh_ hok2 hW hB _ (Nat.le_refl _)) (fun v W' hv hb => hK v W' hv hb)
   ·intro b W B hW hB hb hd K hK hK2; exact ex_step rfl rfl rfl (hd 20 33 (by kernel_rfl) rfl) (fresh_ hok2 hW hB) (fun v W' hv hb => hK v W' hv hb)
   ·intro b W B hW hB hb hd K hK hK2; exact bs1_step rfl rfl rfl (hd 21 34 (by kernel_rfl) rfl) (fresh_ hok2 hW hB _ (Nat.le_refl _)) (fun v W' hv hb => hK v W' hv hb)
   ·intro b W B hW hB hb hd K hK hK2; exact ex_step rfl rfl rfl (hd 22 35 (by kernel_rfl) rfl) (fresh_ hok2 hW hB) (fun v W' hv hb => hK v W' hv hb)
   ·intro b W B hW hB hb hd K hK hK2; exact ld_step rfl rfl (hb 5 (by kernel_rfl)) (cg0 W hW) (cg1 W hW) (cg2 W hW) (hK _ _ (EXv.old eve hW hB) (Below.refl _ _))
   ·intro b W B hW hB hb hd K hK hK2; exact bs2_step rfl rfl rfl (hd 23 36 (by kernel_rfl) rfl) (hd 24 37 (by kernel_rfl) rfl) (fresh_ hok2 hW hB _ (Nat.le_refl _)) (fun v W' hv hb => hK v W' hv hb)
   ·intro b W B hW hB hb hd K hK hK2; exact ex_step rfl rfl rfl (hd 25 38 (by kernel_rfl) rfl) (fresh_ hok2 hW hB) (fun v W' hv hb => hK v W' hv hb)
   ·intro b W B hW hB hb hd K hK hK2; exact bs2_step rfl rfl rfl (hd 11 24 (by kernel_rfl) rfl) (hd 26 39 (by kernel_rfl) rfl) (fresh_ hok2 hW hB _ (Nat.le_refl _)) (fun v W' hv hb => hK v W' hv hb)
   ·intro b W B hW hB hb hd K hK hK2; exact ex_step rfl rfl rfl (hd 27 40 (by kernel_rfl) rfl) (fresh_ hok2 hW hB) (fun v W' hv hb => hK v W' hv hb)
   ·intro vals F W B hF hW hBB hV K hK
    refine st_stepE (ok := fun k => ok2 k ∧ ¬ B k) (x := (⟨5, 0, [⟨4, 0, [⟨3, 0, [a[kk]]⟩, b[kk]]⟩, ⟨4, 0, [⟨3, 0, [⟨6, 0, [a[kk], b[kk]]⟩]⟩, e]⟩]⟩ : S31)) rfl rfl rfl (g := g) ((congrArg (fun q_ : Act => q_.eval (.tmp 5)) hF).trans (fillA_o (by kernel_rfl) rfl)) (EXv.eval ((congrArg (fun q_ : Act => q_.eval (.tmp 41)) hF).trans (fillA_i (n := 44) (by kernel_rfl) rfl (by kernel_rfl))) (hV 28 41 (of_decide_eq_true (by kernel_rfl)) rfl)) (blk_below (blk_drew HBK.out) hW) (fun W' A9 c9 hbk h9 hkp => hK _ _ ?_)
    have HL' := Aside0.mk (show EXv (fun k => (ok k ∧ k ≠ gr) ∧ k ≠ g) W' (.agg #[.int .i64 ((⟨5, 0, [⟨4, 0, [⟨3, 0, [a[kk]]⟩, b[kk]]⟩, ⟨4, 0, [⟨3, 0, [⟨6, 0, [a[kk], b[kk]]⟩]⟩, e]⟩]⟩ : S31)).f0, .int .i64 ((⟨5, 0, [⟨4, 0, [⟨3, 0, [a[kk]]⟩, b[kk]]⟩, ⟨4, 0, [⟨3, 0, [⟨6, 0, [a[kk], b[kk]]⟩]⟩, e]⟩]⟩ : S31)).f1, .slice A9 ((⟨5, 0, [⟨4, 0, [⟨3, 0, [a[kk]]⟩, b[kk]]⟩, ⟨4, 0, [⟨3, 0, [⟨6, 0, [a[kk], b[kk]]⟩]⟩, e]⟩]⟩ : S31)).f2.length c9]) (⟨5, 0, [⟨4, 0, [⟨3, 0, [a[kk]]⟩, b[kk]]⟩, ⟨4, 0, [⟨3, 0, [⟨6, 0, [a[kk], b[kk]]⟩]⟩, e]⟩]⟩ : S31) from EXv.kept (EXv.mono h9 (fun k hk => by rw [hok2e] at hk; exact hk.1)) hkp.kept (fun k hk hs => hk.2 hs))
    have HK' := Aside0.mk hbk
    have HR' := Aside0.mk (blk_kept (blk_below (blk_drew HR.out) hW) hkp.kept (fun h => HRG.out h))
    have hbW := (below_drew1 HB.out).trans (hW.mono HB.out.size)
    have HB' := Aside0.mk (hkp.below _ hbW HG.out)
    have hnw : ∀ k, ok k ∧ k < w.heap.size → ¬ (k = g) := fun k hk h => Nat.lt_irrefl _ (Nat.lt_of_lt_of_le hk.2 (by rw [h]; exact HG.out))
    have HA' := Aside0.mk (EXs.kept (EXs.move (EXs.move HA.out (below_drew (Below.refl _ _))) hW) hkp.kept hnw)
    have HC' := Aside0.mk (EXs.kept (EXs.move (EXs.move HC.out (below_drew (Below.refl _ _))) hW) hkp.kept hnw)
    clear HA HC HB HR HBK HL hbW hnw hkp hbk h9 hV hBB hW hok2 hno hok2e eva evb eve cm ca0 ca1 ca2 cb0 cb1 cb2 cg0 cg1 cg2 Hxa Hxb hK
    rw [hF]
    clear hF
    simp only [List.take, fillA, Act.put, List.setIfInBounds_toArray, List.set_cons_zero, List.set_cons_succ]
    go_wp2
    go_roundg (gk - 1)
    case measure => omega
    case rel => exact ⟨kk + 1, (⟨5, 0, [⟨4, 0, [⟨3, 0, [a[kk]]⟩, b[kk]]⟩, ⟨4, 0, [⟨3, 0, [⟨6, 0, [a[kk], b[kk]]⟩]⟩, e]⟩]⟩ : S31), A9, c9, rfl, by omega, by omega, HE2, HK', HR', HL', HA', HC', HB'⟩
  ·have hE := HE.out
   obtain rfl : kk = a.length := by omega
   rw [List.drop_length, lessAcc] at hE
   subst hE
   have hc0 := (blk_cell HBK.out 0).trans (show _ = some (.int .i64 (lessE a b).f0) from rfl)
   have hc1 := (blk_cell HBK.out 1).trans (show _ = some (.int .i64 (lessE a b).f1) from rfl)
   have hc2 := (blk_cell HBK.out 2).trans (show _ = some (.slice A (lessE a b).f2.length c) from rfl)
   have hr0 := (blk_cell HR.out 0).trans (show _ = some (.int .i64 0) from rfl)
   have hr1 := (blk_cell HR.out 1).trans (show _ = some (.int .i64 0) from rfl)
   have hr2 := (blk_cell HR.out 2).trans (show _ = some (.slice none 0 0) from rfl)
   have hfr0 := blk_frozen HR.out 0
   have hfr1 := blk_frozen HR.out 1
   have hfr2 := blk_frozen HR.out 2
   have hne := HRG.out
   have hne2 := Ne.symm HRG.out
   go_wp2
   have hput := box_put3 (a := .int .i64 (lessE a b).f0) (b := .int .i64 (lessE a b).f1) (v := .slice A (lessE a b).f2.length c) HR.out
   refine bodyPost_ret (results_cell_row rfl _ _ gr 31 #[.int .i64 (lessE a b).f0, .int .i64 (lessE a b).f1, .slice A (lessE a b).f2.length c] (0, 0) _ rfl hput.1 Try.underlying31 rfl (by kernel_rfl)) rfl ?_
   exact ⟨_, rfl, EXv.mono (EXv.kept HL.out hput.2.kept (fun k hk hs => hk.1.2 hs)) (fun k hk => hk.1.1), hput.2.below _ HB.out HRl.out⟩
def sless_T5 : Bool × List (List Nat × List Nat) := (true, [([], []), ([], []), ([0, 1], [0, 1]), ([2], [2]), ([3], [3]), ([], []), ([], []), ([5, 6], [5, 6]), ([7], [7]), ([8, 4], [8]), ([4, 9], [4, 9]), ([10, 9], [10]), ([11], [11]), ([12, 11], [12]), ([], []), ([14, 13, 13, 0, 1, 2, 3, 4, 5, 6, 7, 8, 9, 10, 11, 12, 13, 14], [13, 14])])
theorem sless_tab5 : rtab .any (opsOf Try.f90 5) = sless_T5 := by kernel_rfl
def sless_T6 : Bool × List (List Nat × List Nat) := (true, [([], []), ([], []), ([0, 1], [0, 1]), ([2], [2]), ([3], [3]), ([4], [4]), ([5, 4], [5]), ([], []), ([], []), ([7, 8], [7, 8]), ([9], [9]), ([10, 6], [10]), ([6, 11], [6, 11]), ([12, 11], [12]), ([], []), ([], []), ([14, 15], [14, 15]), ([16, 13], [16]), ([13, 17], [13, 17]), ([18, 17], [18]), ([19, 19, 0, 1, 2, 3, 4, 5, 6, 7, 8, 9, 10, 11, 12, 13, 14, 15, 16, 17, 18, 19], [19])])
theorem sless_tab6 : rtab .any (opsOf Try.f90 6) = sless_T6 := by kernel_rfl
set_option maxHeartbeats 4000000 in
set_option maxRecDepth 100000 in
theorem sless_any (kf : Nat) (ok : Nat → Prop) (va vb : Value) (a b : List S31) (hlen : a.length ≤ b.length) (w : World) (ha : EXs ok w va a) (hb : EXs ok w vb b) (hok : ∀ k, w.heap.size ≤ k → ok k) (hcp : ∀ x, x ∈ a ∨ x ∈ b → spec_l05Copy.f kf x.f0 x.f1 x.f2 = some (x.f0, x.f1, x.f2)) :
  Calls Try.prog 90 #[va, vb] w fun e w' => ∃ u, e = .returned u ∧ EXv ok w' u (lessE a b) ∧ Below w.heap.size w w' := by
 have hu31 := Try.underlying31
 have hu29 := Try.underlying29
 obtain ⟨Aa, ca, rfl, la, Fa⟩ := ha
 obtain ⟨Ab, cb, rfl, lb, Fb⟩ := hb
 have HA := Aside0.mk (show EXs (fun k => ok k ∧ k < w.heap.size) w (.slice Aa a.length ca) a from ⟨_, _, rfl, la, Kd.F_bound Fa⟩)
 have HBb := Aside0.mk (show EXs (fun k => ok k ∧ k < w.heap.size) w (.slice Ab b.length cb) b from ⟨_, _, rfl, lb, Kd.F_bound Fb⟩)
 have hma : a.length ≤ 9223372036854775807 := Kd.F_max Fa
 have hmb : b.length ≤ 9223372036854775807 := Kd.F_max Fb
 have HB := Aside0.mk (Below.refl w.heap.size w)
 clear Fa Fb la lb
 go_enter Try.func90, Try.ntmps90
 go_upto_region 1 with (first | ((with_reducible refine gate_dst (N := 4) rfl ?_); refine box_event ?hg (N := 4) ?hd (cs := #[.int .i64 0, .int .i64 0, .slice none 0 0]) (t := 31) ?hr ?_; (case hd => rfl); (case hg => rfl); (case hr => first | (go_simp; done) | (go_simp; rfl)); intro gr hgw wb hbox hbb; have HR := Aside0.mk (And.intro hbox (show w.heap.size ≤ gr by rw [hgw]; exact HB.out.size)); have hb_ := hbb; clear hbox hgw; have mB_ := Aside0.mk (HB.out.trans (hb_.mono HB.out.size)); clear HB; have HB := mB_; clear mB_; clear hb_ hbb))
 go_wp2_with (first
  | (go_at_call 84; refine (spec_l05Const.calls 0 2 0 [] _ rfl).mono ?_; rintro e w1 ⟨v0, rfl, hr0, hb0⟩; have HB0 := Aside0.mk HB.out.size; have HR0 := Aside0.mk (blk_lt HR.out.1); have mB_ := Aside0.mk (HB.out.trans (hb0.mono HB.out.size)); clear HB; have HB := mB_; clear mB_; have mR_ := Aside0.mk (And.intro (blk_below HR.out.1 hb0) HR.out.2); clear HR; have HR := mR_; clear mR_; have H0 := Aside0.mk (show EXv (fun k => (ok k ∧ k ≠ gr)) w1 (.agg #[.int .i64 2, .int .i64 0, v0]) ⟨2, 0, []⟩ from EXv.of (b := 0) (Kd.R_V (Kd.R_mono (Kd.R_bound hr0) (fun k_ hk_ => ⟨hok k_ (Nat.le_trans HB0.out hk_.2.1), Nat.ne_of_gt (Nat.lt_of_lt_of_le HR0.out hk_.2.1)⟩)))); obtain ⟨A0, c0, e0⟩ := Kd.R_slice hr0; subst e0; clear hr0 hb0)
  | ((with_reducible refine gate_dst (N := 5) rfl ?_); refine box_event ?hg (N := 5) ?hd (cs := #[.int .i64 0, .int .i64 0, .slice none 0 0]) (t := 31) ?hr ?_; (case hd => rfl); (case hg => rfl); (case hr => first | (go_simp; done) | (go_simp; rfl)); intro g hgw wb hbox hbb; have HG0 := Aside0.mk hbox; have HG := Aside0.mk (show w.heap.size ≤ g by rw [hgw]; exact HB.out.size); have HGe := Aside0.mk hgw; have HRG := Aside0.mk (show gr ≠ g by rw [hgw]; exact Nat.ne_of_lt (blk_lt HR.out.1)); have hb_ := hbb; clear hbox hgw; have mB_ := Aside0.mk (HB.out.trans (hb_.mono HB.out.size)); clear HB; have HB := mB_; clear mB_; have mR_ := Aside0.mk (And.intro (blk_below HR.out.1 hb_) HR.out.2); clear HR; have HR := mR_; clear mR_; have m0_ := Aside0.mk (show EXv (fun k => (ok k ∧ k ≠ gr) ∧ k ≠ g) wb _ _ from EXv.move (W := w1) (by obtain ⟨A_, c_, e_, l_, F_⟩ := H0.out; exact ⟨A_, c_, e_, l_, Kd.F_mono (Kd.F_bound F_) (fun k_ hk_ => ⟨hk_.1, by rw [HGe.out]; exact Nat.ne_of_lt hk_.2⟩)⟩) hb_); clear H0; have H0 := m0_; clear m0_ hb_ hbb)
  | ((with_reducible refine gate_store (t := 31) (p := 5) rfl ?_); have hc0 := (blk_cell HG0.out 0).trans (show _ = some (.int .i64 0) from rfl); have hc1 := (blk_cell HG0.out 1).trans (show _ = some (.int .i64 0) from rfl); have hc2 := (blk_cell HG0.out 2).trans (show _ = some (.slice none 0 0) from rfl); have hf0 := blk_frozen HG0.out 0; have hf1 := blk_frozen HG0.out 1; have hf2 := blk_frozen HG0.out 2; refine store_event (t := 31) (p := 5) (v := ?vo) (w1 := ((wb.setCell ⟨g, 0, none⟩ (.int .i64 2)).setCell ⟨g, 1, none⟩ (.int .i64 0)).setCell ⟨g, 2, none⟩ (.slice A0 0 c0)) ?hg ?ho ?hn ?hr ?_; (case ho => rfl); (case hg => rfl); (case hn => rfl); (case hr => first | (go_simp; done) | (go_simp; rfl)); clear hc0 hc1 hc2 hf0 hf1 hf2; intro w2 hw_; obtain ⟨hbk, hkb⟩ := box_put3 (a := .int .i64 2) (b := .int .i64 0) (v := .slice A0 0 c0) HG0.out; rw [← hw_] at hbk hkb; clear hw_))
 have HCP := Aside0.mk hcp
 clear hcp
 have HL := Aside0.mk (show EXv (fun k => (ok k ∧ k ≠ gr) ∧ k ≠ g) w2 (.agg #[.int .i64 2, .int .i64 0, .slice A0 0 c0]) ⟨2, 0, []⟩ from EXv.kept H0.out hkb.kept (fun k hk hs => hk.2 hs))
 have HR2 := Aside0.mk (blk_kept HR.out.1 hkb.kept (fun h => HRG.out h))
 have HB2 := Aside0.mk (hkb.below _ HB.out HG.out)
 have HRl := Aside0.mk HR.out.2
 have HA2 := Aside0.mk (EXs.move HA.out HB2.out)
 have HC2 := Aside0.mk (EXs.move HBb.out HB2.out)
 have HBK := Aside0.mk hbk
 clear HA HBb HB HR HG0 HGe H0 hkb hbk
 
 go_loopg [6] a.length (fun gg vi wr => ∃ (kk : Nat) (e : S31) (A : Option Addr) (c : Nat), vi = .int .i64 kk ∧ kk ≤ a.length ∧ a.length - kk ≤ gg ∧ Aside0 (lessAcc (a.drop kk) (b.drop kk) e = lessE a b) ∧ Aside0 (wr.heap[g]? = some (.cells #[.int .i64 e.f0, .int .i64 e.f1, .slice A e.f2.length c] 31 (0, 0))) ∧ Aside0 (wr.heap[gr]? = some (.cells #[.int .i64 0, .int .i64 0, .slice none 0 0] 31 (0, 0))) ∧ Aside0 (EXv (fun k => (ok k ∧ k ≠ gr) ∧ k ≠ g) wr (.agg #[.int .i64 e.f0, .int .i64 e.f1, .slice A e.f2.length c]) e) ∧ Aside0 (EXs (fun k => ok k ∧ k < w.heap.size) wr (.slice Aa a.length ca) a) ∧ Aside0 (EXs (fun k => ok k ∧ k < w.heap.size) wr (.slice Ab b.length cb) b) ∧ Aside0 (Below w.heap.size w wr))
 case atStart => exact ⟨0, ⟨2, 0, []⟩, A0, c0, rfl, Nat.zero_le _, by omega, ⟨by rw [List.drop_zero, List.drop_zero]; rfl⟩, HBK, HR2, HL, HA2, HC2, HB2⟩
 case round =>
  clear HL HR2 HB2 HA2 HC2 HBK
  obtain ⟨kk, e, A, c, rfl, hk, hgm, HE, HBK, HR, HL, HA, HC, HB⟩ := hrel
  by_cases hlt : kk < a.length
  ·have hltz : (kk : Int) < (a.length : Int) := by omega
   have h0z : (0 : Int) ≤ (kk : Int) := by omega
   have hia : kk < a.length := hlt
   have hib : kk < b.length := by omega
   have ew : IntKind.i64.wrap ((kk : Int) + 1) = ((kk + 1 : Nat) : Int) := IntWalk.i64_in _ (by omega)
   have hE := HE.out
   rw [List.drop_eq_getElem_cons hia, List.drop_eq_getElem_cons hib, lessAcc] at hE
   have HE2 := Aside0.mk hE
   clear hE HE
   obtain ⟨ada, ca_, Ax, cx, exa, xa0, xa1, xa2, xva⟩ := HA.out.at kk hia
   cases exa
   obtain ⟨adb, cb_, Ay, cy, exb, xb0, xb1, xb2, xvb⟩ := HC.out.at kk hib
   cases exb
   have hgs := Aside0.mk (blk_lt HBK.out)
   have hrs := Aside0.mk (blk_lt HR.out)
   have hws := Aside0.mk HB.out.size
   have Hxa := Aside0.mk (And.intro xa0 (And.intro xa1 (And.intro xa2 xva)))
   have Hxb := Aside0.mk (And.intro xb0 (And.intro xb1 (And.intro xb2 xvb)))
   clear xa0 xa1 xa2 xva xb0 xb1 xb2 xvb
   go_wp2
   obtain ⟨ok2, hok2e⟩ : ∃ ok2 : Nat → Prop, ok2 = fun k => (ok k ∧ k ≠ gr) ∧ k ≠ g := ⟨_, rfl⟩
   have hno : ∀ k, ok k ∧ k < w.heap.size → ok2 k := fun k hk => by rw [hok2e]; exact ⟨⟨hk.1, Nat.ne_of_lt (Nat.lt_of_lt_of_le hk.2 HRl.out)⟩, Nat.ne_of_lt (Nat.lt_of_lt_of_le hk.2 HG.out)⟩
   have cpa := HCP.out a[kk] (.inl (List.getElem_mem hia))
   have cpb := HCP.out b[kk] (.inr (List.getElem_mem hib))
   have cm : ∀ (W : World) {p : Addr} {v : Value}, Below wr.drew.heap.size wr.drew W → wr.cell? p = some v → W.cell? p = some v := fun W p v hW hx => (hW.cell (World.block_lt_of_cell? _ _ hx)).trans hx
   have ca0 := fun (W : World) (hW : Below wr.drew.heap.size wr.drew W) => cm W hW Hxa.out.1
   have ca1 := fun (W : World) (hW : Below wr.drew.heap.size wr.drew W) => cm W hW Hxa.out.2.1
   have ca2 := fun (W : World) (hW : Below wr.drew.heap.size wr.drew W) => cm W hW Hxa.out.2.2.1
   have cb0 := fun (W : World) (hW : Below wr.drew.heap.size wr.drew W) => cm W hW Hxb.out.1
   have cb1 := fun (W : World) (hW : Below wr.drew.heap.size wr.drew W) => cm W hW Hxb.out.2.1
   have cb2 := fun (W : World) (hW : Below wr.drew.heap.size wr.drew W) => cm W hW Hxb.out.2.2.1
   have eva : EXv ok2 wr.drew _ _ := EXv.move (EXv.mono Hxa.out.2.2.2 hno) (below_drew (Below.refl _ _))
   have evb : EXv ok2 wr.drew _ _ := EXv.move (EXv.mono Hxb.out.2.2.2 hno) (below_drew (Below.refl _ _))
   have hok2 : ∀ k, wr.drew.heap.size ≤ k → ok2 k := fun k hk => by rw [hok2e]; exact ⟨⟨hok k (Nat.le_trans hws.out hk), Nat.ne_of_gt (Nat.lt_of_lt_of_le hrs.out hk)⟩, Nat.ne_of_gt (Nat.lt_of_lt_of_le hgs.out hk)⟩
   refine any_region [some 15, some 16, some 17, some 18, some 19, some 20, some 21, some 22, some 23, some 24, some 25, some 26, some 27, some 28, some 7, none] 50 15 [VP.eq (.slice (some ada) a.length ca), VP.eq (.int .i64 (kk : Int)), VP.eq (.pointer (some (ada.add (kk * 3)))), VP.ex ok2 (a[kk]), VP.ex ok2 (a[kk]), VP.eq (.slice (some adb) b.length cb), VP.eq (.int .i64 (kk : Int)), VP.eq (.pointer (some (adb.add (kk * 3)))), VP.ex ok2 (b[kk]), VP.ex ok2 (b[kk]), VP.exs ok2 ([a[kk], b[kk]]), VP.ex ok2 (⟨6, 0, [a[kk], b[kk]]⟩), VP.exs ok2 ([⟨6, 0, [a[kk], b[kk]]⟩]), VP.ex ok2 (⟨3, 0, [⟨6, 0, [a[kk], b[kk]]⟩]⟩), VP.box (wr.drew.heap.size) #[.int .i64 0, .int .i64 0, .slice none 0 0] 31] rfl sless_tab5 rfl rfl (by kernel_rfl) rfl ⟨?_, ?_, ?_, ?_, ?_, ?_, ?_, ?_, ?_, ?_, ?_, ?_, ?_, ?_, ?_, trivial⟩ ?_
   ·intro b W B hW hB hb hd K hK hK2; exact mv_step rfl rfl (hb 0 (by kernel_rfl)) (hK _ _ rfl (Below.refl _ _))
   ·intro b W B hW hB hb hd K hK hK2; exact mv_step rfl rfl (hb 6 (by kernel_rfl)) (hK _ _ rfl (Below.refl _ _))
   ·intro b W B hW hB hb hd K hK hK2; exact ix_step rfl rfl (hd 0 15 (by kernel_rfl) rfl) (hd 1 16 (by kernel_rfl) rfl) hia hma (hK _ _ rfl (Below.refl _ _))
   ·intro b W B hW hB hb hd K hK hK2; exact ld_step rfl rfl (hd 2 17 (by kernel_rfl) rfl) (ca0 W hW) (ca1 W hW) (ca2 W hW) (hK _ _ (EXv.old eva hW hB) (Below.refl _ _))
   ·intro b W B hW hB hb hd K hK hK2; exact cp_step rfl rfl rfl (hd 3 18 (by kernel_rfl) rfl) cpa (fresh_ hok2 hW hB) (fun v W' hv hb => hK v W' hv hb)
   ·intro b W B hW hB hb hd K hK hK2; exact mv_step rfl rfl (hb 1 (by kernel_rfl)) (hK _ _ rfl (Below.refl _ _))
   ·intro b W B hW hB hb hd K hK hK2; exact mv_step rfl rfl (hb 6 (by kernel_rfl)) (hK _ _ rfl (Below.refl _ _))
   ·intro b W B hW hB hb hd K hK hK2; exact ix_step rfl rfl (hd 5 20 (by kernel_rfl) rfl) (hd 6 21 (by kernel_rfl) rfl) hib hmb (hK _ _ rfl (Below.refl _ _))
   ·intro b W B hW hB hb hd K hK hK2; exact ld_step rfl rfl (hd 7 22 (by kernel_rfl) rfl) (cb0 W hW) (cb1 W hW) (cb2 W hW) (hK _ _ (EXv.old evb hW hB) (Below.refl _ _))
   ·intro b W B hW hB hb hd K hK hK2; exact cp_step rfl rfl rfl (hd 8 23 (by kernel_rfl) rfl) cpb (fresh_ hok2 hW hB) (fun v W' hv hb => hK v W' hv hb)
   ·intro b W B hW hB hb hd K hK hK2; exact bs2_step rfl rfl rfl (hd 4 19 (by kernel_rfl) rfl) (hd 9 24 (by kernel_rfl) rfl) (fresh_ hok2 hW hB _ (Nat.le_refl _)) (fun v W' hv hb => hK v W' hv hb)
   ·intro b W B hW hB hb hd K hK hK2; exact sx_step rfl rfl rfl (hd 10 25 (by kernel_rfl) rfl) (fresh_ hok2 hW hB) (fun v W' hv hb => hK v W' hv hb)
   ·intro b W B hW hB hb hd K hK hK2; exact bs1_step rfl rfl rfl (hd 11 26 (by kernel_rfl) rfl) (fresh_ hok2 hW hB _ (Nat.le_refl _)) (fun v W' hv hb => hK v W' hv hb)
   ·intro b W B hW hB hb hd K hK hK2; exact sx_step rfl rfl rfl (hd 12 27 (by kernel_rfl) rfl) (fresh_ hok2 hW hB) (fun v W' hv hb => hK v W' hv hb)
   ·intro b W B hW hB hb hd K hK hK2; refine al_step rfl rfl (fun W' h_ hb_ hl_ => hK2 _ W' ?_ hb_ hl_); obtain ⟨g_, e_, h1_, h2_, h3_⟩ := h_; exact ⟨g_, e_, Nat.le_trans hW.size h1_, .inr h2_, h3_⟩
   ·intro vals F W B hF hW hBB hV K hK
    obtain ⟨g7, e7, hn7, hB7, hz7⟩ := hV 14 7 (of_decide_eq_true (by kernel_rfl)) rfl
    refine st_stepE (ok := fun k => ok2 k ∧ ¬ B k) (x := (⟨3, 0, [⟨6, 0, [a[kk], b[kk]]⟩]⟩ : S31)) rfl rfl rfl (g := g7) (((congrArg (fun q_ : Act => q_.eval (.tmp 7)) hF).trans (fillA_i (n := 50) (by kernel_rfl) rfl (by kernel_rfl))).trans e7) (EXv.eval ((congrArg (fun q_ : Act => q_.eval (.tmp 28)) hF).trans (fillA_i (n := 50) (by kernel_rfl) rfl (by kernel_rfl))) (hV 13 28 (of_decide_eq_true (by kernel_rfl)) rfl)) hz7 (fun w5 A7 c7 hbk h9 hkp => hK _ _ ?_)
    have hb5 := (below_drew (Below.refl wr.heap.size wr)).trans (hkp.below _ hW hn7)
    have HS := Aside0.mk (show EXv (fun k => (ok k ∧ k ≠ gr) ∧ k ≠ g) w5 (.agg #[.int .i64 ((⟨3, 0, [⟨6, 0, [a[kk], b[kk]]⟩]⟩ : S31)).f0, .int .i64 ((⟨3, 0, [⟨6, 0, [a[kk], b[kk]]⟩]⟩ : S31)).f1, .slice A7 ((⟨3, 0, [⟨6, 0, [a[kk], b[kk]]⟩]⟩ : S31)).f2.length c7]) (⟨3, 0, [⟨6, 0, [a[kk], b[kk]]⟩]⟩ : S31) from EXv.mono (EXv.kept h9 hkp.kept (fun k hk hs => hk.2 (by rw [hs]; exact hB7))) (fun k hk => by have q := hk.1; rw [hok2e] at q; exact q))
    have HSB := Aside0.mk hbk
    have n0_ := Aside0.mk (blk_below HR.out hb5)
    have n1_ := Aside0.mk (blk_below HBK.out hb5)
    have n2_ := Aside0.mk (EXs.move HA.out hb5)
    have n3_ := Aside0.mk (EXs.move HC.out hb5)
    have n4_ := Aside0.mk (EXv.move HL.out hb5)
    have n5_ := Aside0.mk (HB.out.trans (hb5.mono HB.out.size))
    have cm5 : ∀ {p : Addr} {v : Value}, wr.cell? p = some v → w5.cell? p = some v := fun {p v} hx => (hb5.cell (World.block_lt_of_cell? _ _ hx)).trans hx
    have n6_ := Aside0.mk (And.intro (cm5 Hxa.out.1) (And.intro (cm5 Hxa.out.2.1) (And.intro (cm5 Hxa.out.2.2.1) (EXv.move Hxa.out.2.2.2 hb5))))
    have n7_ := Aside0.mk (And.intro (cm5 Hxb.out.1) (And.intro (cm5 Hxb.out.2.1) (And.intro (cm5 Hxb.out.2.2.1) (EXv.move Hxb.out.2.2.2 hb5))))
    have HN7 := Aside0.mk (Nat.le_trans HB.out.size hn7)
    have m0_ := Aside0.mk (Nat.lt_of_lt_of_le hgs.out hb5.size)
    have m1_ := Aside0.mk (Nat.lt_of_lt_of_le hrs.out hb5.size)
    have m2_ := Aside0.mk (Nat.le_trans hws.out hb5.size)
    clear HR HBK HA HC HL HB Hxa Hxb hgs hrs hws
    have HR := n0_
    have HBK := n1_
    have HA := n2_
    have HC := n3_
    have HL := n4_
    have HB := n5_
    have Hxa := n6_
    have Hxb := n7_
    have hgs := m0_
    have hrs := m1_
    have hws := m2_
    clear n0_ n1_ n2_ n3_ n4_ n5_ n6_ n7_ m0_ m1_ m2_ hb5 cm5 hkp hbk h9 hV hBB hW hok2 hK cm hz7 hB7 hn7 ca0 ca1 ca2 cb0 cb1 cb2 eva evb 
    have HPP := Aside0.mk (And.intro hok2e (And.intro hno (And.intro cpa cpb)))
    clear hok2e hno cpa cpb
    rw [hF]
    clear hF
    simp only [List.take, fillA, Act.put, List.setIfInBounds_toArray, List.set_cons_zero, List.set_cons_succ, e7]
    clear e7
    go_wp2
    obtain ⟨hok2e, hno, cpa, cpb⟩ := HPP.out
    have cm : ∀ (W : World) {p : Addr} {v : Value}, Below w5.drew.heap.size w5.drew W → w5.cell? p = some v → W.cell? p = some v := fun W p v hW hx => (hW.cell (World.block_lt_of_cell? _ _ hx)).trans hx
    have ca0 := fun (W : World) (hW : Below w5.drew.heap.size w5.drew W) => cm W hW Hxa.out.1
    have ca1 := fun (W : World) (hW : Below w5.drew.heap.size w5.drew W) => cm W hW Hxa.out.2.1
    have ca2 := fun (W : World) (hW : Below w5.drew.heap.size w5.drew W) => cm W hW Hxa.out.2.2.1
    have cb0 := fun (W : World) (hW : Below w5.drew.heap.size w5.drew W) => cm W hW Hxb.out.1
    have cb1 := fun (W : World) (hW : Below w5.drew.heap.size w5.drew W) => cm W hW Hxb.out.2.1
    have cb2 := fun (W : World) (hW : Below w5.drew.heap.size w5.drew W) => cm W hW Hxb.out.2.2.1
    have cg0 := fun (W : World) (hW : Below w5.drew.heap.size w5.drew W) => cm W hW ((blk_cell HBK.out 0).trans (show _ = some (.int .i64 e.f0) from rfl))
    have cg1 := fun (W : World) (hW : Below w5.drew.heap.size w5.drew W) => cm W hW ((blk_cell HBK.out 1).trans (show _ = some (.int .i64 e.f1) from rfl))
    have cg2 := fun (W : World) (hW : Below w5.drew.heap.size w5.drew W) => cm W hW ((blk_cell HBK.out 2).trans (show _ = some (.slice A e.f2.length c) from rfl))
    have cs0 := fun (W : World) (hW : Below w5.drew.heap.size w5.drew W) => cm W hW ((blk_cell HSB.out 0).trans (show _ = some (.int .i64 ((⟨3, 0, [⟨6, 0, [a[kk], b[kk]]⟩]⟩ : S31)).f0) from rfl))
    have cs1 := fun (W : World) (hW : Below w5.drew.heap.size w5.drew W) => cm W hW ((blk_cell HSB.out 1).trans (show _ = some (.int .i64 ((⟨3, 0, [⟨6, 0, [a[kk], b[kk]]⟩]⟩ : S31)).f1) from rfl))
    have cs2 := fun (W : World) (hW : Below w5.drew.heap.size w5.drew W) => cm W hW ((blk_cell HSB.out 2).trans (show _ = some (.slice A7 ((⟨3, 0, [⟨6, 0, [a[kk], b[kk]]⟩]⟩ : S31)).f2.length c7) from rfl))
    have eva : EXv ok2 w5.drew _ _ := EXv.move (EXv.mono Hxa.out.2.2.2 hno) (below_drew (Below.refl _ _))
    have evb : EXv ok2 w5.drew _ _ := EXv.move (EXv.mono Hxb.out.2.2.2 hno) (below_drew (Below.refl _ _))
    have eve : EXv ok2 w5.drew _ _ := EXv.move (EXv.mono HL.out (fun k hk => by rw [hok2e]; exact hk)) (below_drew (Below.refl _ _))
    have evs : EXv ok2 w5.drew _ _ := EXv.move (EXv.mono HS.out (fun k hk => by rw [hok2e]; exact hk)) (below_drew (Below.refl _ _))
    have hok2 : ∀ k, w5.drew.heap.size ≤ k → ok2 k := fun k hk => by rw [hok2e]; exact ⟨⟨hok k (Nat.le_trans hws.out hk), Nat.ne_of_gt (Nat.lt_of_lt_of_le hrs.out hk)⟩, Nat.ne_of_gt (Nat.lt_of_lt_of_le hgs.out hk)⟩
    refine any_region [some 29, some 30, some 31, some 32, some 33, some 34, some 35, some 36, some 37, some 38, some 39, some 40, some 41, some 42, some 43, some 44, some 45, some 46, some 47, some 48, none] 50 20 [VP.eq (.slice (some ada) a.length ca), VP.eq (.int .i64 (kk : Int)), VP.eq (.pointer (some (ada.add (kk * 3)))), VP.ex ok2 (a[kk]), VP.ex ok2 (a[kk]), VP.exs ok2 ([a[kk]]), VP.ex ok2 (⟨3, 0, [a[kk]]⟩), VP.eq (.slice (some adb) b.length cb), VP.eq (.int .i64 (kk : Int)), VP.eq (.pointer (some (adb.add (kk * 3)))), VP.ex ok2 (b[kk]), VP.ex ok2 (b[kk]), VP.exs ok2 ([⟨3, 0, [a[kk]]⟩, b[kk]]), VP.ex ok2 (⟨4, 0, [⟨3, 0, [a[kk]]⟩, b[kk]]⟩), VP.ex ok2 (⟨3, 0, [⟨6, 0, [a[kk], b[kk]]⟩]⟩), VP.ex ok2 (e), VP.exs ok2 ([⟨3, 0, [⟨6, 0, [a[kk], b[kk]]⟩]⟩, e]), VP.ex ok2 (⟨4, 0, [⟨3, 0, [⟨6, 0, [a[kk], b[kk]]⟩]⟩, e]⟩), VP.exs ok2 ([⟨4, 0, [⟨3, 0, [a[kk]]⟩, b[kk]]⟩, ⟨4, 0, [⟨3, 0, [⟨6, 0, [a[kk], b[kk]]⟩]⟩, e]⟩]), VP.ex ok2 (⟨5, 0, [⟨4, 0, [⟨3, 0, [a[kk]]⟩, b[kk]]⟩, ⟨4, 0, [⟨3, 0, [⟨6, 0, [a[kk], b[kk]]⟩]⟩, e]⟩]⟩)] rfl sless_tab6 rfl rfl (by kernel_rfl) rfl ⟨?_, ?_, ?_, ?_, ?_, ?_, ?_, ?_, ?_, ?_, ?_, ?_, ?_, ?_, ?_, ?_, ?_, ?_, ?_, ?_, trivial⟩ ?_
    ·intro b W B hW hB hb hd K hK hK2; exact mv_step rfl rfl (hb 0 (by kernel_rfl)) (hK _ _ rfl (Below.refl _ _))
    ·intro b W B hW hB hb hd K hK hK2; exact mv_step rfl rfl (hb 6 (by kernel_rfl)) (hK _ _ rfl (Below.refl _ _))
    ·intro b W B hW hB hb hd K hK hK2; exact ix_step rfl rfl (hd 0 29 (by kernel_rfl) rfl) (hd 1 30 (by kernel_rfl) rfl) hia hma (hK _ _ rfl (Below.refl _ _))
    ·intro b W B hW hB hb hd K hK hK2; exact ld_step rfl rfl (hd 2 31 (by kernel_rfl) rfl) (ca0 W hW) (ca1 W hW) (ca2 W hW) (hK _ _ (EXv.old eva hW hB) (Below.refl _ _))
    ·intro b W B hW hB hb hd K hK hK2; exact cp_step rfl rfl rfl (hd 3 32 (by kernel_rfl) rfl) cpa (fresh_ hok2 hW hB) (fun v W' hv hb => hK v W' hv hb)
    ·intro b W B hW hB hb hd K hK hK2; exact bs1_step rfl rfl rfl (hd 4 33 (by kernel_rfl) rfl) (fresh_ hok2 hW hB _ (Nat.le_refl _)) (fun v W' hv hb => hK v W' hv hb)
    ·intro b W B hW hB hb hd K hK hK2; exact sx_step rfl rfl rfl (hd 5 34 (by kernel_rfl) rfl) (fresh_ hok2 hW hB) (fun v W' hv hb => hK v W' hv hb)
    ·intro b W B hW hB hb hd K hK hK2; exact mv_step rfl rfl (hb 1 (by kernel_rfl)) (hK _ _ rfl (Below.refl _ _))
    ·intro b W B hW hB hb hd K hK hK2; exact mv_step rfl rfl (hb 6 (by kernel_rfl)) (hK _ _ rfl (Below.refl _ _))
    ·intro b W B hW hB hb hd K hK hK2; exact ix_step rfl rfl (hd 7 36 (by kernel_rfl) rfl) (hd 8 37 (by kernel_rfl) rfl) hib hmb (hK _ _ rfl (Below.refl _ _))
    ·intro b W B hW hB hb hd K hK hK2; exact ld_step rfl rfl (hd 9 38 (by kernel_rfl) rfl) (cb0 W hW) (cb1 W hW) (cb2 W hW) (hK _ _ (EXv.old evb hW hB) (Below.refl _ _))
    ·intro b W B hW hB hb hd K hK hK2; exact cp_step rfl rfl rfl (hd 10 39 (by kernel_rfl) rfl) cpb (fresh_ hok2 hW hB) (fun v W' hv hb => hK v W' hv hb)
    ·intro b W B hW hB hb hd K hK hK2; exact bs2_step rfl rfl rfl (hd 6 35 (by kernel_rfl) rfl) (hd 11 40 (by kernel_rfl) rfl) (fresh_ hok2 hW hB _ (Nat.le_refl _)) (fun v W' hv hb => hK v W' hv hb)
    ·intro b W B hW hB hb hd K hK hK2; exact sx_step rfl rfl rfl (hd 12 41 (by kernel_rfl) rfl) (fresh_ hok2 hW hB) (fun v W' hv hb => hK v W' hv hb)
    ·intro b W B hW hB hb hd K hK hK2; exact ld_step rfl rfl (hb 7 (by kernel_rfl)) (cs0 W hW) (cs1 W hW) (cs2 W hW) (hK _ _ (EXv.old evs hW hB) (Below.refl _ _))
    ·intro b W B hW hB hb hd K hK hK2; exact ld_step rfl rfl (hb 5 (by kernel_rfl)) (cg0 W hW) (cg1 W hW) (cg2 W hW) (hK _ _ (EXv.old eve hW hB) (Below.refl _ _))
    ·intro b W B hW hB hb hd K hK hK2; exact bs2_step rfl rfl rfl (hd 14 43 (by kernel_rfl) rfl) (hd 15 44 (by kernel_rfl) rfl) (fresh_ hok2 hW hB _ (Nat.le_refl _)) (fun v W' hv hb => hK v W' hv hb)
    ·intro b W B hW hB hb hd K hK hK2; exact sx_step rfl rfl rfl (hd 16 45 (by kernel_rfl) rfl) (fresh_ hok2 hW hB) (fun v W' hv hb => hK v W' hv hb)
    ·intro b W B hW hB hb hd K hK hK2; exact bs2_step rfl rfl rfl (hd 13 42 (by kernel_rfl) rfl) (hd 17 46 (by kernel_rfl) rfl) (fresh_ hok2 hW hB _ (Nat.le_refl _)) (fun v W' hv hb => hK v W' hv hb)
    ·intro b W B hW hB hb hd K hK hK2; exact sx_step rfl rfl rfl (hd 18 47 (by kernel_rfl) rfl) (fresh_ hok2 hW hB) (fun v W' hv hb => hK v W' hv hb)
    ·intro vals2 F W B hF hW hBB hV K hK
     refine st_stepE (ok := fun k => ok2 k ∧ ¬ B k) (x := (⟨5, 0, [⟨4, 0, [⟨3, 0, [a[kk]]⟩, b[kk]]⟩, ⟨4, 0, [⟨3, 0, [⟨6, 0, [a[kk], b[kk]]⟩]⟩, e]⟩]⟩ : S31)) rfl rfl rfl (g := g) ((congrArg (fun q_ : Act => q_.eval (.tmp 5)) hF).trans (fillA_o (by kernel_rfl) rfl)) (EXv.eval ((congrArg (fun q_ : Act => q_.eval (.tmp 48)) hF).trans (fillA_i (n := 50) (by kernel_rfl) rfl (by kernel_rfl))) (hV 19 48 (of_decide_eq_true (by kernel_rfl)) rfl)) (blk_below (blk_drew HBK.out) hW) (fun W' A9 c9 hbk h9 hkp => hK _ _ ?_)
     have HL' := Aside0.mk (show EXv (fun k => (ok k ∧ k ≠ gr) ∧ k ≠ g) W' (.agg #[.int .i64 ((⟨5, 0, [⟨4, 0, [⟨3, 0, [a[kk]]⟩, b[kk]]⟩, ⟨4, 0, [⟨3, 0, [⟨6, 0, [a[kk], b[kk]]⟩]⟩, e]⟩]⟩ : S31)).f0, .int .i64 ((⟨5, 0, [⟨4, 0, [⟨3, 0, [a[kk]]⟩, b[kk]]⟩, ⟨4, 0, [⟨3, 0, [⟨6, 0, [a[kk], b[kk]]⟩]⟩, e]⟩]⟩ : S31)).f1, .slice A9 ((⟨5, 0, [⟨4, 0, [⟨3, 0, [a[kk]]⟩, b[kk]]⟩, ⟨4, 0, [⟨3, 0, [⟨6, 0, [a[kk], b[kk]]⟩]⟩, e]⟩]⟩ : S31)).f2.length c9]) (⟨5, 0, [⟨4, 0, [⟨3, 0, [a[kk]]⟩, b[kk]]⟩, ⟨4, 0, [⟨3, 0, [⟨6, 0, [a[kk], b[kk]]⟩]⟩, e]⟩]⟩ : S31) from EXv.kept (EXv.mono h9 (fun k hk => by rw [hok2e] at hk; exact hk.1)) hkp.kept (fun k hk hs => hk.2 hs))
     have HK' := Aside0.mk hbk
     have HR' := Aside0.mk (blk_kept (blk_below (blk_drew HR.out) hW) hkp.kept (fun h => HRG.out h))
     have hbW := (below_drew1 HB.out).trans (hW.mono HB.out.size)
     have HB' := Aside0.mk (hkp.below _ hbW HG.out)
     have hnw : ∀ k, ok k ∧ k < w.heap.size → ¬ (k = g) := fun k hk h => Nat.lt_irrefl _ (Nat.lt_of_lt_of_le hk.2 (by rw [h]; exact HG.out))
     have HA' := Aside0.mk (EXs.kept (EXs.move (EXs.move HA.out (below_drew (Below.refl _ _))) hW) hkp.kept hnw)
     have HC' := Aside0.mk (EXs.kept (EXs.move (EXs.move HC.out (below_drew (Below.refl _ _))) hW) hkp.kept hnw)
     clear HA HC HB HR HBK HL hbW hnw hkp hbk h9 hV hBB hW hok2 hno hok2e cm HS HSB HN7 HPP Hxa Hxb hK cpa cpb ca0 ca1 ca2 cb0 cb1 cb2 cg0 cg1 cg2 cs0 cs1 cs2 eva evb eve evs
     rw [hF]
     clear hF
     simp only [List.take, fillA, Act.put, List.setIfInBounds_toArray, List.set_cons_zero, List.set_cons_succ]
     go_wp2
     go_roundg (gk - 1)
     case measure => omega
     case rel => exact ⟨kk + 1, (⟨5, 0, [⟨4, 0, [⟨3, 0, [a[kk]]⟩, b[kk]]⟩, ⟨4, 0, [⟨3, 0, [⟨6, 0, [a[kk], b[kk]]⟩]⟩, e]⟩]⟩ : S31), A9, c9, rfl, by omega, by omega, HE2, HK', HR', HL', HA', HC', HB'⟩
  ·have hE := HE.out
   obtain rfl : kk = a.length := by omega
   rw [List.drop_length, lessAcc] at hE
   subst hE
   have hc0 := (blk_cell HBK.out 0).trans (show _ = some (.int .i64 (lessE a b).f0) from rfl)
   have hc1 := (blk_cell HBK.out 1).trans (show _ = some (.int .i64 (lessE a b).f1) from rfl)
   have hc2 := (blk_cell HBK.out 2).trans (show _ = some (.slice A (lessE a b).f2.length c) from rfl)
   have hr0 := (blk_cell HR.out 0).trans (show _ = some (.int .i64 0) from rfl)
   have hr1 := (blk_cell HR.out 1).trans (show _ = some (.int .i64 0) from rfl)
   have hr2 := (blk_cell HR.out 2).trans (show _ = some (.slice none 0 0) from rfl)
   have hfr0 := blk_frozen HR.out 0
   have hfr1 := blk_frozen HR.out 1
   have hfr2 := blk_frozen HR.out 2
   have hne := HRG.out
   have hne2 := Ne.symm HRG.out
   go_wp2
   have hput := box_put3 (a := .int .i64 (lessE a b).f0) (b := .int .i64 (lessE a b).f1) (v := .slice A (lessE a b).f2.length c) HR.out
   refine bodyPost_ret (results_cell_row rfl _ _ gr 31 #[.int .i64 (lessE a b).f0, .int .i64 (lessE a b).f1, .slice A (lessE a b).f2.length c] (0, 0) _ rfl hput.1 Try.underlying31 rfl (by kernel_rfl)) rfl ?_
   exact ⟨_, rfl, EXv.mono (EXv.kept HL.out hput.2.kept (fun k hk hs => hk.1.2 hs)) (fun k hk => hk.1.1), hput.2.below _ HB.out HRl.out⟩
end Go.Proofs.Ytcmkkoggdcjceaa.PFnExactWordBits
end
section
namespace Go.Proofs.Ytcmkkoggdcjceaa.PFnExactWordBits
open Go.RowKit Go.Proofs.YtcmkkoggdcjceaaW.PrintWords Go.Proofs.YtcmkkoggdcjceaaW.PrintLast Go.Proofs.YtcmkkoggdcjceaaW.PrintMore
attribute [local go_sem] max2_int min2_int max_two min_two max_three min_three max_four min_four   -- for this text's walks alone
set_option linter.unusedVariables false
set_option linter.unusedSimpArgs false
def impl_constBits.l0 : Nat → Int → List (S31) → Int → Int → Option ((List (S31)))
 | 0, _, _, _, _ => none
 | k + 1, x0, x5, x7, x8 => if x8 < x7 then (if 0 ≤ x8 then ((impl_constEx.f (Go.bits .and .i64 (shr .i64 x0 x8) 1)).bind fun bt127 => (if x5.length < 3518437208883 then (impl_constBits.l0 k x0 (x5 ++ [(⟨bt127.1, bt127.2.1, bt127.2.2⟩ : S31)]) x7 (wrap64 (x8 + 1))) else (none))) else (none)) else (some x5)
def impl_constBits.f (k : Nat) (a0 : Int) (a1 : Int) : Option ((List (S31))) := impl_constBits.l0 k a0 ([] : List (S31)) a1 0
set_option maxHeartbeats 8000000 in
set_option maxRecDepth 100000 in
theorem impl_constBits.calls (k : Nat) (a0 : Int) (a1 : Int) (r : List (S31)) (w : World) (h : impl_constBits.f k a0 a1 = some r) :
  Calls Try.prog 131 #[.int .i64 a0, .int .i64 a1] w fun e w' => ∃ v0_ : Value, e = .returned (v0_) ∧ Kd.R k31 31 w' w.heap.size (fun _ => True) v0_ r ∧ Below w.heap.size w w' := by
 have HB := Aside0.mk (Below.refl w.heap.size w)
 have H : (impl_constBits.l0 k a0 ([] : List (S31)) a1 0) = some r := h
 clear h
 have H' := Aside0.mk H
 clear H
 go_enter Try.func131, Try.ntmps131
 go_wp2
 go_loopg [5, 8] k (fun kq v5 v8 w' => ∃ (x5_1 : List (S31)) (x8_1 : Int), v8 = .int .i64 x8_1 ∧ Aside0 (impl_constBits.l0 kq a0 x5_1 a1 x8_1 = some r) ∧ Aside0 (kq ≤ k) ∧ Aside0 (Kd.R k31 31 w' w.heap.size (fun _ => True) v5 x5_1) ∧ Aside0 (Below w.heap.size w w'))
 case atStart => exact ⟨(([] : List (S31))), (0), (by first | rfl | (simp; done) | (simp [*]; done)), H', ⟨Nat.le_refl _⟩, ⟨by first | exact Kd.R_nil _ _ _ _ _ | exact Kd.N_nil _ _ _ _ _ | exact Kd.V_nil _ _ _ _ _ | exact Kd.Q_nil _ _ _ _ _ | exact Kd.S_nil _ _ _ _ _⟩, ⟨by repeat (first | (with_reducible first | exact HB.out | apply below_alloc | apply pw_below_drewN | apply below_drew1) | exact HB.out)⟩⟩
 case round =>
  clear H'
  try clear c1
  try clear p2
  obtain ⟨x5_1, x8_1, rfl, HA, HK1, HO_5, HB⟩ := hrel
  cases gk with
  | zero => exact absurd HA.out (by simp [impl_constBits.l0])
  | succ k1 =>
   have H := HA.out
   clear HA
   simp only [impl_constBits.l0] at H
   by_cases c3 : x8_1 < a1
   ·rw [if_pos c3] at H
    have c3b0 : decide (x8_1 < a1) = true := decide_eq_true c3
    clear c3
    by_cases c4 : 0 ≤ x8_1
    ·rw [if_pos c4] at H
     have c4b0 := eq_true c4
     have c4b1 : decide (0 ≤ x8_1) = true := decide_eq_true c4
     clear c4
     obtain ⟨ji5, hji5⟩ : ∃ j_ : Int, (shr .i64 a0 x8_1) = j_ := ⟨_, rfl⟩
     replace H : ((impl_constEx.f (Go.bits .and .i64 (ji5) 1)).bind fun bt127 => (if x5_1.length < 3518437208883 then (impl_constBits.l0 k1 a0 (x5_1 ++ [(⟨bt127.1, bt127.2.1, bt127.2.2⟩ : S31)]) a1 (wrap64 (x8_1 + 1))) else (none))) = some r := by first | (rw [hji5] at H; exact H) | (simp only [hji5] at H ⊢; exact H)
     have hji5_ : (a0 / 2 ^ min x8_1.toNat 64) = ji5 := hji5
     have hji5z : x8_1 ≤ 64 → (a0 / 2 ^ x8_1.toNat) = ji5 := shr_small hji5
     replace H := Option.bind_eq_some_iff.mp H
     obtain ⟨⟨t127, t128, t129⟩, A60, H⟩ := H
     replace H : (if x5_1.length < 3518437208883 then (impl_constBits.l0 k1 a0 (x5_1 ++ [(⟨t127, t128, t129⟩ : S31)]) a1 (wrap64 (x8_1 + 1))) else (none)) = some r := H
     have A6 := Aside0.mk A60
     clear A60
     by_cases c7 : x5_1.length < 3518437208883
     ·rw [if_pos c7] at H
      have LMc7 := Aside0.mk c7
      clear c7
      obtain ⟨y132, hy132⟩ : ∃ y_ : List (S31), y_ = (x5_1 ++ [(⟨t127, t128, t129⟩ : S31)]) := ⟨_, rfl⟩
      replace H : (impl_constBits.l0 k1 a0 y132 a1 (wrap64 (x8_1 + 1))) = some r := by first | (rw [hy132]; with_reducible exact H) | (have H2_ := (Option.bind_some _ _).symm.trans H; rw [hy132]; with_reducible exact H2_) | (have H2_ := (Option.bind_some _ _).symm.trans H; with_reducible exact H2_) | with_reducible exact H | (rw [hy132]; exact H) | exact H
      have Ny132 := Aside0.mk hy132
      clear hy132
      have H' := Aside0.mk H
      clear H
      go_wp2_with (first | ((with_reducible refine gate_callee (f := 88) rfl ?_); refine goesL_ (some 16) rfl rfl Try.func88 (by kernel_rfl) rfl #[.int .i64 (Go.bits .and .i64 (ji5) 1)] rfl (by (try simp only [List.map_toArray, List.map_cons, List.map_nil]); first | done | (simp only [hji5]; rfl) | rfl | (simp only [List.length_drop, List.length_take]; rfl)) ?_; (with_reducible refine (impl_constEx.calls (Go.bits .and .i64 (ji5) 1) t127 t128 t129 _ A6.out).mono ?_); rintro e w8 ⟨v130, rfl, ho0, hb⟩; refine ⟨_, rfl, ?_⟩; have n0_ := Aside0.mk (Kd.R_elder' (by (with_reducible repeat (first | apply Kd.R_alloc | apply Kd.R_drewN | apply Kd.R_drew)); exact HO_5.out) (Kd.R_base ho0) hb); have n1_ := Aside0.mk (Kd.R_lower (Kd.R_new' ho0 (Kd.R_lt (by (with_reducible repeat (first | apply Kd.R_alloc | apply Kd.R_drewN | apply Kd.R_drew)); exact HO_5.out))) (below_size (by repeat (first | (with_reducible first | exact HB.out | apply below_alloc | apply pw_below_drewN | apply below_drew1) | exact HB.out)))); have n2_ := Aside0.mk (below_step (by repeat (first | (with_reducible first | exact HB.out | apply below_alloc | apply pw_below_drewN | apply below_drew1) | exact HB.out)) hb); clear HO_5; clear HB; have HO_5 := n0_; have HO131 := n1_; have HB := n2_; clear n0_ n1_ n2_; (try clear hb); (try clear hb2); (try clear hk); (try clear hi); (try clear ho0); obtain ⟨Ao10, co10, eo10⟩ := Kd.R_slice HO131.out; subst eo10) | ((with_reducible refine gate_builtin (b := .append) (xs := #[.tmp 11, .tmp 17]) rfl ?_); at_builtin; refine Kd.R_append k31 (w0 := w) w.heap.size rfl (.tmp 11) (.tmp 17) 29 31 (.agg #[(.int .i64 0), (.int .i64 0), (.slice none 0 0)]) 40 rfl Try.underlying29 info31 rfl (by decide) (by omega) u5 x5_1 (⟨t127, t128, t129⟩ : S31) [.int .i64 t127, .int .i64 t128, .slice Ao10 t129.length co10] (fun _ => True) (fun k_ => ((fun _ => True)) k_ ∧ some k_ ≠ (u5 : Value).ownBlock) rfl rfl ?aP (fun _ hk => hk) ?aF ?aO ?aB ?aS ?aL ?_; (case aP => exact k31_mkM _ _ _ (⟨t127, t128, t129⟩ : S31) (Kd.R_mono (HO131.out) (fun k_ hk => ⟨trivial, hk.2⟩))); (case aB => exact (by repeat (first | (with_reducible first | exact HB.out | apply below_alloc | apply pw_below_drewN | apply below_drew1) | exact HB.out))); (case aF => exact (fun _ _ => trivial)); (case aO => exact (by (with_reducible repeat (first | apply Kd.R_alloc | apply Kd.R_drewN | apply Kd.R_drew)); exact Kd.R_mono HO_5.out (fun _ hk => trivial))); (case aS => exact (below_size (by repeat (first | (with_reducible first | exact HB.out | apply below_alloc | apply pw_below_drewN | apply below_drew1) | exact HB.out)))); (case aL => have := LMc7.out; omega); intro v133 w9 ho hb hg hat; rw [← Ny132.out] at ho; have n0_ := Aside0.mk (hb); have n1_ := Aside0.mk (ho); clear HB; clear HO_5; clear HO131; have HB := n0_; have HO134 := n1_; clear n0_ n1_; clear ho hb hg hat))
      go_roundg k1
      case measure => have := HK1.out; omega
      case rel => exact ⟨(y132), (wrap64 (x8_1 + 1)), (by first | rfl | (simp; done) | (simp [*]; done)), H', ⟨by have := HK1.out; omega⟩, ⟨by (with_reducible repeat (first | apply Kd.R_alloc | apply Kd.R_drewN | apply Kd.R_drew)); exact HO134.out⟩, ⟨by repeat (first | (with_reducible first | exact HB.out | apply below_alloc | apply pw_below_drewN | apply below_drew1) | exact HB.out)⟩⟩
     ·rw [if_neg c7] at H
      exact absurd H (by simp)
    ·rw [if_neg c4] at H
     exact absurd H (by simp)
   ·rw [if_neg c3] at H
    have c3b0 : decide (x8_1 < a1) = false := decide_eq_false c3
    clear c3
    obtain rfl := Option.some.inj H
    go_wp2
    go_ret
    exact ⟨_, by first | rfl | (simp [errW_none, errW_some] <;> rfl) | (simp [*, errW_none, errW_some] <;> rfl), by (with_reducible repeat (first | apply Kd.R_alloc | apply Kd.R_drewN | apply Kd.R_drew)); exact HO_5.out, by repeat (first | (with_reducible first | exact HB.out | apply below_alloc | apply pw_below_drewN | apply below_drew1) | exact HB.out)⟩
end Go.Proofs.Ytcmkkoggdcjceaa.PFnExactWordBits
end
section
namespace Go.Proofs.Ytcmkkoggdcjceaa.PFnExactWordBits
open Go.RowKit Go.Proofs.YtcmkkoggdcjceaaW.PrintWords Go.Proofs.YtcmkkoggdcjceaaW.PrintLast Go.Proofs.YtcmkkoggdcjceaaW.PrintMore
attribute [local go_sem] max2_int min2_int max_two min_two max_three min_three max_four min_four   -- for this text's walks alone
set_option linter.unusedVariables false
set_option linter.unusedSimpArgs false
section
variable {P : Program} {ops : Array Oper} {Q : Exit → Act → World → Prop}
def okX (L E : List (Option Tmp)) (n m : Nat) (T : Bool × List (List Nat × List Nat)) (Bt : List Nat) : Bool :=
 decide (m < L.length) && (L.take m).all (fun N => match N with | some t => decide (t < n) | none => true) && decide (L.take m).Nodup && (List.range m).all (fun j => E.getD j none == L.getD j none || (L.getD j none == none && ((T.2.getD j ([], [])).1).any (fun k => decide (k < m) && (L.getD k none == E.getD j none)))) && (waitsOk T.2 Bt && (List.range L.length).all (fun d => decide (d < m) || (List.range d).all (fun i => (Bt.getD d 0).testBit i))) && (List.range L.length).all (fun i => ((T.2.getD i ([], [])).1).all (fun j => decide (j < i)))
def StepX (P : Program) (ops : Array Oper) (Q : Exit → Act → World → Prop) (a0 : Act) (w0 : World) (L E : List (Option Tmp)) (X : List Nat) (T : Bool × List (List Nat × List Nat)) (V : List VP) (m : Nat) (i : Nat) (o : Oper) : Prop :=
 ∀ (b : Act) (W : World) (B : Nat → Prop), Below w0.heap.size w0 W → (∀ k, B k → w0.heap.size ≤ k ∧ k < W.heap.size) → (∀ (t : Nat) (_ : (L.take m).contains (some t) = false := by kernel_rfl), b.eval (.tmp t) = a0.eval (.tmp t)) →
  (∀ (j t : Nat) (_ : ((T.2.getD i ([], [])).1).contains j = true := by kernel_rfl) (_ : E[j]? = some (some t) := by rfl), (V.getD j VP.any).p B W (b.eval (.tmp t))) →
  ∀ K : Act → World → Prop, (∀ v W', (V.getD i VP.any).p B W' v → Below W.heap.size W W' → ∀ (_ : (o.dst.isSome && !X.contains i) = true := by kernel_rfl), K (b.put o.dst v) W') → (∀ v W', (V.getD i VP.any).p (fun k => B k ∨ k = W.heap.size) W' v → Below W.heap.size W W' → W.heap.size < W'.heap.size → v = .pointer (some ⟨W.heap.size, 0, none⟩) → ∀ (_ : o.dst.isSome = true := by kernel_rfl), K (b.put o.dst v) W') →
   (∀ W', (∀ t, E[i]? = some (some t) → (V.getD i VP.any).p B W' (b.eval (.tmp t))) → Below w0.heap.size W W' → (∀ (j t : Nat), j < m → j ≠ i → ((T.2.getD j ([], [])).1).contains i = false → E[j]? = some (some t) → (V.getD j VP.any).p B W (b.eval (.tmp t)) → (V.getD j VP.any).p B W' (b.eval (.tmp t))) → ∀ (_ : o.dst = none := by kernel_rfl) (_ : X.contains i = false := by kernel_rfl), K b W') → if Region.wanted o (yielded ops b.tmps) = true then Oper.wp P o b W K Q else K (b.put o.dst undef) W
structure AX (a0 : Act) (w0 : World) (L E : List (Option Tmp)) (X : List Nat) (m : Nat) (V : List VP) (l : Nat → Bool) (B : Nat → Prop) (a : Act) (w : World) : Prop where
 size : a.tmps.size = a0.tmps.size
 defers : a.defers = a0.defers
 below : Below w0.heap.size w0 w
 boxes : ∀ k, B k → w0.heap.size ≤ k ∧ k < w.heap.size
 other : ∀ t, (∀ i, i < m → L[i]? = some (some t) → l i = false) → a.eval (.tmp t) = a0.eval (.tmp t)
 vals : ∀ i t, i < m → E[i]? = some (some t) → l i = true → (V.getD i VP.any).p B w (a.eval (.tmp t))
 sep : ∀ i j s t, i < m → j < m → i ≠ j → X.contains i = true → X.contains j = true → L[i]? = some (some s) → L[j]? = some (some t) → l i = true → l j = true → a.eval (.tmp s) ≠ a.eval (.tmp t)
section
variable {a0 : Act} {w0 : World} {L E : List (Option Tmp)} {X : List Nat} {n m : Nat} {V : List VP}
theorem AX.start (a0 : Act) (w0 : World) (L E : List (Option Tmp)) (X : List Nat) (m : Nat) (V : List VP) {l : Nat → Bool} (hl : ∀ i, l i = false) : AX a0 w0 L E X m V l (fun _ => False) a0 w0 :=
 ⟨rfl, rfl, Below.refl _ _, fun _ h => h.elim, fun _ _ => rfl, fun i t _ _ h => (by rw [hl i] at h; cases h), fun i j s t _ _ _ _ _ _ _ h => by rw [hl i] at h; cases h⟩
theorem AX.step {l l' : Nat → Bool} {B B' : Nat → Prop} {a : Act} {w w' : World} {i : Nat} {v : Value} {N : Option Tmp} (inv : AX a0 w0 L E X m V l B a w) (him : i < m) (hN : L[i]? = some N) (hset1 : l' i = true) (hset : ∀ j, j ≠ i → l' j = l j)
  (huniq : ∀ (i j : Nat) (t : Tmp), i < m → j < m → L[i]? = some (some t) → L[j]? = some (some t) → i = j) (hlt : ∀ (i : Nat) (t : Tmp), i < m → L[i]? = some (some t) → t < a0.tmps.size)
  (hv : ∀ t, E[i]? = some (some t) → (V.getD i VP.any).p B' w' ((a.put N v).eval (.tmp t))) (hsep : ∀ j t, j < m → j ≠ i → l j = true → E[j]? = some (some t) → N ≠ some t) (hX : ∀ j s t, j < m → j ≠ i → l j = true → X.contains i = true → X.contains j = true → L[i]? = some (some s) → L[j]? = some (some t) → v ≠ a.eval (.tmp t))
  (hb : Below w0.heap.size w w') (hmv : ∀ (j t : Nat), j < m → j ≠ i → l j = true → E[j]? = some (some t) → (V.getD j VP.any).p B w (a.eval (.tmp t)) → (V.getD j VP.any).p B' w' (a.eval (.tmp t))) (hB2 : ∀ k, B' k → w0.heap.size ≤ k ∧ k < w'.heap.size) : AX a0 w0 L E X m V l' B' (a.put N v) w' := by
 have hput : ∀ t, N ≠ some t → (a.put N v).eval (.tmp t) = a.eval (.tmp t) := fun t h => by
  cases hM : N with
  | none => rfl
  | some M => exact put_other (fun e => h (by rw [hM, e]))
 have hslot : ∀ s, L[i]? = some (some s) → (a.put N v).eval (.tmp s) = v := fun s hs => by
  rw [hs] at hN
  rw [← Option.some.inj hN]
  exact put_same (by rw [inv.size]; exact hlt i s him hs)
 have hoth : ∀ j t, j < m → j ≠ i → L[j]? = some (some t) → N ≠ some t := fun j t hj hji hjt h => by
  rw [h] at hN
  exact hji (huniq j i t hj him hjt hN)
 refine ⟨?_, ?_, ?_, hB2, ?_, ?_, ?_⟩
 ·rw [put_size]; exact inv.size
 ·rw [put_defers]; exact inv.defers
 ·exact inv.below.trans hb
 ·intro t ht
  have hne : N ≠ some t := by
   intro hM
   subst hM
   have := ht i him hN
   rw [hset1] at this
   cases this
  rw [hput t hne]
  refine inv.other t (fun j hj hjt => ?_)
  have := ht j hj hjt
  by_cases hji : j = i
  ·subst hji
   rw [hset1] at this
   cases this
  ·rw [hset j hji] at this
   exact this
 ·intro j t hj hjt hjl
  by_cases hji : j = i
  ·subst hji
   exact hv t hjt
  ·rw [hset j hji] at hjl
   rw [hput t (hsep j t hj hji hjl hjt)]
   exact hmv j t hj hji hjl hjt (inv.vals j t hj hjt hjl)
 ·intro j k s t hj hk hjk hXj hXk hjs hkt hjl hkl
  by_cases hji : j = i
  ·subst hji
   rw [hset k (Ne.symm hjk)] at hkl
   rw [hslot s hjs, hput t (hoth k t hk (Ne.symm hjk) hkt)]
   exact hX k s t hk (Ne.symm hjk) hkl hXj hXk hjs hkt
  ·rw [hset j hji] at hjl
   by_cases hki : k = i
   ·subst hki
    rw [hslot t hkt, hput s (hoth j s hj hji hjs)]
    exact Ne.symm (hX j t s hj hji hjl hXk hXj hkt hjs)
   ·rw [hset k hki] at hkl
    rw [hput s (hoth j s hj hji hjs), hput t (hoth k t hk hki hkt)]
    exact inv.sep j k s t hj hk hjk hXj hXk hjs hkt hjl hkl
theorem AX.filled {l : Nat → Bool} {B : Nat → Prop} {a : Act} {w : World} (inv : AX a0 w0 L E X m V l B a w) : a = fillA (fun t => a.eval (.tmp t)) (L.take m) a0 := by
 refine act_ext ?_ ?_ (fun t ht => ?_)
 ·rw [fillA_size, inv.size]
 ·rw [fillA_defers, inv.defers]
 ·by_cases hmem : some t ∈ L.take m
  ·rw [fillA_at _ _ hmem (by rw [← inv.size]; exact ht)]
  ·rw [fillA_other _ _ hmem]
   refine inv.other t (fun j hj hjt => ?_)
   exact absurd (List.mem_of_getElem? (i := j) (by rw [List.getElem?_take_of_lt hj]; exact hjt)) hmem
end
def TailX (P : Program) (ops : Array Oper) (Q : Exit → Act → World → Prop) (a0 : Act) (w0 : World) (L E : List (Option Tmp)) (X : List Nat) (m : Nat) (V : List VP) (R : List Oper) : Prop :=
 ∀ (vals : Nat → Value) (F : Act) (W : World) (B : Nat → Prop), F = fillA vals (L.take m) a0 → Below w0.heap.size w0 W → (∀ k, B k → w0.heap.size ≤ k ∧ k < W.heap.size) → (∀ i t, i < m → E[i]? = some (some t) → (V.getD i VP.any).p B W (vals t)) → (∀ i j s t, i < m → j < m → i ≠ j → X.contains i = true → X.contains j = true → L[i]? = some (some s) → L[j]? = some (some t) → vals s ≠ vals t) → wpList P ops Q R F W
theorem any_x {id : Nat} {a0 : Act} {w : World} {T : Bool × List (List Nat × List Nat)} {R : List Oper} (L E : List (Option Tmp)) (X : List Nat) (n m : Nat) (Bt : List Nat) (V : List VP) (hXV : ∀ j, X.contains j = true → ∀ B W v, (∀ k, B k → k < W.heap.size) → (V.getD j VP.any).p B W v → v ≠ .pointer (some ⟨W.heap.size, 0, none⟩)) (hm : P.follows .mixedOrders = true) (hT : rtab .any ops = T) (hL : ops.toList.map (·.dst) = L) (hn : a0.tmps.size = n) (hc : okX L E n m T Bt = true) (hR : ops.toList.drop m = R)
  (step : Each (StepX P ops Q a0 w.drew L E X T V m) m 0 ops.toList) (last : TailX P ops Q a0 w.drew L E X m V R) : (Code.region id ops true).wp P Q a0 w := by
 simp only [okX, Bool.and_eq_true, decide_eq_true_eq] at hc
 obtain ⟨⟨⟨⟨⟨c1, c2⟩, c3⟩, c6⟩, c4, c4b⟩, c5⟩ := hc
 have hsz : ops.size = L.length := by rw [← hL]; simp
 have hdst : ∀ (i : Nat) (o : Oper), ops[i]? = some o → L[i]? = some o.dst := by
  intro i o ho
  rw [← hL, List.getElem?_map, Array.getElem?_toList, ho]
  rfl
 have hneeds : ∀ (i : Nat) (o : Oper), ops[i]? = some o → (T.2.getD i ([], [])).1 = needsOf .any o := by
  intro i o ho
  rw [← hT, List.getD_eq_getElem?_getD, rtab_some ho]
  rfl
 have hneed : ∀ (i : Nat) (o : Oper) (l : Array Bool), ops[i]? = some o → (∀ e ∈ o.after, Region.binds .any e = true → l.getD e.on false = true) → ∀ j, ((T.2.getD i ([], [])).1).contains j = true → l.getD j false = true := by
  intro i o l ho hall j hj
  rw [hneeds i o ho] at hj
  unfold needsOf at hj
  rw [List.contains_iff_mem, List.mem_map] at hj
  obtain ⟨e, he, rfl⟩ := hj
  rw [List.mem_filter] at he
  exact hall e (by simpa using he.1) he.2
 have hback : ∀ (i : Nat) (o : Oper) (l : Array Bool), ops[i]? = some o → (∀ j, ((T.2.getD i ([], [])).1).contains j = true → l.getD j false = true) → l.getD i true = false → i ∈ Region.ready .any ops l := by
  intro i o l ho h hl
  refine mem_ready.2 ⟨hl, o, ho, fun e he hb => ?_⟩
  refine h e.on ?_
  rw [hneeds i o ho, List.contains_iff_mem]
  unfold needsOf
  rw [List.mem_map]
  exact ⟨e, by rw [List.mem_filter]; exact ⟨by simpa using he, hb⟩, rfl⟩
 have hlt : ∀ (i : Nat) (t : Tmp), i < m → L[i]? = some (some t) → t < n := by
  intro i t hi ht
  have := List.all_eq_true.1 c2 (some t) (List.mem_of_getElem? (i := i) (by rw [List.getElem?_take_of_lt hi]; exact ht))
  simpa using this
 have huniq : ∀ (i j : Nat) (t : Tmp), i < m → j < m → L[i]? = some (some t) → L[j]? = some (some t) → i = j := by
  intro i j t hi hj h1 h2
  exact nodup_get c3 (by rw [List.getElem?_take_of_lt hi]; exact h1) (by rw [List.getElem?_take_of_lt hj]; exact h2)
 have hE : ∀ (j : Nat) (t : Tmp), j < m → E[j]? = some (some t) → L[j]? = some (some t) ∨ ∃ k, ((T.2.getD j ([], [])).1).contains k = true ∧ k < m ∧ L[k]? = some (some t) := by
  intro j t hj hjt
  have h := List.all_eq_true.1 c6 j (List.mem_range.2 hj)
  have hEg : E.getD j none = some t := by rw [List.getD_eq_getElem?_getD, hjt]; rfl
  have hL_of : ∀ k, L.getD k none = some t → L[k]? = some (some t) := by
   intro k hk
   rw [List.getD_eq_getElem?_getD] at hk
   cases hx : L[k]? with
   | none => rw [hx] at hk; cases hk
   | some y => rw [hx] at hk; exact congrArg some hk
  rw [Bool.or_eq_true] at h
  rcases h with h | h
  ·exact .inl (hL_of j ((beq_iff_eq.1 h).symm.trans hEg))
  ·rw [Bool.and_eq_true] at h
   obtain ⟨k, hk, h2⟩ := List.any_eq_true.1 h.2
   rw [Bool.and_eq_true, decide_eq_true_eq] at h2
   exact .inr ⟨k, List.contains_iff_mem.2 hk, h2.1, hL_of k ((beq_iff_eq.1 h2.2).trans hEg)⟩
 have hE2 : ∀ (j : Nat) (s t : Tmp), j < m → E[j]? = some (some t) → L[j]? = some (some s) → s = t := by
  intro j s t hj hjt hjs
  have h := List.all_eq_true.1 c6 j (List.mem_range.2 hj)
  have hEg : E.getD j none = some t := by rw [List.getD_eq_getElem?_getD, hjt]; rfl
  have hLg : L.getD j none = some s := by rw [List.getD_eq_getElem?_getD, hjs]; rfl
  rw [hEg, hLg, Bool.or_eq_true, Bool.and_eq_true] at h
  rcases h with h | h
  ·exact (Option.some.inj (beq_iff_eq.1 h)).symm
  ·exact absurd (beq_iff_eq.1 h.1) (by simp)
 have g1 : ∀ (l : Array Bool) (i : Nat), i < l.size → l.getD i true = false → l.getD i false = false := by
  intro l i hi h
  simp only [Array.getD_eq_getD_getElem?, Array.getElem?_eq_getElem hi, Option.getD_some] at h ⊢
  exact h
 have g2 : ∀ (l : Array Bool) (i : Nat), i < l.size → l.getD i false ≠ true → l.getD i true = false := by
  intro l i hi h
  simp only [Array.getD_eq_getD_getElem?, Array.getElem?_eq_getElem hi, Option.getD_some] at h ⊢
  simpa using h
 have htail : ∀ (l : Array Bool) (d : Nat), ListedClosed .any ops l → l.size = L.length → m ≤ d → d ∈ Region.ready .any ops l → ∀ i, i < d → l.getD i false = true := by
  intro l d hcl hls hmd hd i hid
  apply Classical.byContradiction
  intro hno
  obtain ⟨_, o, ho, _⟩ := mem_ready.1 hd
  have hdl : d < L.length := by rw [← hsz]; exact (Array.getElem?_eq_some_iff.1 ho).1
  have hb := List.all_eq_true.1 c4b d (List.mem_range.2 hdl)
  rw [Bool.or_eq_true, decide_eq_true_eq] at hb
  have hbit := List.all_eq_true.1 (hb.resolve_left (by omega)) i (List.mem_range.2 hid)
  have hTl : T.2.length = L.length := by rw [← hT, rtab_length, hsz]
  have hr := reach_bit c4 (d + 1) d (by omega) (by rw [hTl]; exact hdl) hbit
  rw [← hT, ← reach_eq] at hr
  exact Region.reach_not_ready hcl hr (g2 l i (by omega) hno) hd
 have hfirst : ∀ (l : Array Bool), l.size = L.length → (∃ i, i < L.length ∧ l.getD i true = false) → Region.ready .any ops l ≠ [] := by
  intro l hls ⟨i, hi, hil⟩ hr
  have fst : ∀ (d i : Nat), d = i → (i < L.length ∧ l.getD i true = false) → ∃ i0, i0 < L.length ∧ l.getD i0 true = false ∧ ∀ j, j < i0 → l.getD j false = true := by
   intro d
   induction d using Nat.strongRecOn with
   | _ d ih =>
    intro i hd hi
    by_cases h : ∀ j, j < i → l.getD j false = true
    ·exact ⟨i, hi.1, hi.2, h⟩
    ·simp only [Classical.not_forall] at h
     obtain ⟨j, hj, hjl⟩ := h
     exact ih j (by omega) j rfl ⟨by omega, g2 l j (by omega) hjl⟩
  obtain ⟨i0, h1, h2, h3⟩ := fst i i rfl ⟨hi, hil⟩
  have ho : ops[i0]? = some (ops[i0]'(by omega)) := Array.getElem?_eq_getElem (by omega)
  have := hback i0 _ l ho (fun j hj => h3 j (by
   have := List.all_eq_true.1 c5 i0 (List.mem_range.2 h1)
   have := List.all_eq_true.1 this j (List.contains_iff_mem.1 hj)
   simpa using this)) h2
  rw [hr] at this
  cases this
 have hset : ∀ (l : Array Bool) (i j : Nat), j ≠ i → ∀ b, (l.setIfInBounds i true).getD j b = l.getD j b := by
  intro l i j hj b
  simp [Array.getD_eq_getD_getElem?, Array.getElem?_setIfInBounds, Ne.symm hj]
 have hset1 : ∀ (l : Array Bool) (i : Nat), i < l.size → ∀ b, (l.setIfInBounds i true).getD i b = true := by
  intro l i hi b
  simp [Array.getD_eq_getD_getElem?, Array.getElem?_setIfInBounds, hi]
 -- the tail, one by one
 have tail : ∀ (q d : Nat) (l : Array Bool) (a : Act) (W : World) (fuel : Nat), d + q = L.length → m ≤ d → q ≤ fuel → l.size = L.length → ListedClosed .any ops l → (∀ i, i < d → l.getD i false = true) → (∀ i, d ≤ i → i < L.length → l.getD i true = false) → wpList P ops Q (ops.toList.drop d) a W → wpAny P .any ops Q fuel l a W := by
  intro q
  induction q with
  | zero =>
   intro d l a W fuel hd hmd hq hls hcl hall _ hw
   rw [List.drop_of_length_le (by rw [Array.length_toList]; omega)] at hw
   refine wpAny_done ?_ hw fuel
   rw [List.eq_nil_iff_forall_not_mem]
   intro j hj
   obtain ⟨q1, oj, hoj, _⟩ := mem_ready.1 hj
   have hjm : j < L.length := by rw [← hsz]; exact (Array.getElem?_eq_some_iff.1 hoj).1
   have := g1 l j (by omega) q1
   rw [hall j (by omega)] at this
   cases this
  | succ q ih =>
   intro d l a W fuel hd hmd hq hls hcl hall hun hw
   obtain ⟨fuel, rfl⟩ : ∃ f, fuel = f + 1 := ⟨fuel - 1, by omega⟩
   have hdl : d < ops.toList.length := by rw [Array.length_toList]; omega
   rw [List.drop_eq_getElem_cons hdl] at hw
   refine ⟨fun hr => absurd hr (hfirst l hls ⟨d, by omega, hun d (Nat.le_refl _) (by omega)⟩), fun i hi => ?_⟩
   have hid : i = d := by
    obtain ⟨q1, oi, hoi, _⟩ := mem_ready.1 hi
    have hil : i < L.length := by rw [← hsz]; exact (Array.getElem?_eq_some_iff.1 hoi).1
    rcases Nat.lt_trichotomy i d with h | h | h
    ·have := g1 l i (by omega) q1
     rw [hall i h] at this
     cases this
    ·exact h
    ·have := htail l i hcl hls (by omega) hi d h
     rw [g1 l d (by omega) (hun d (Nat.le_refl _) (by omega))] at this
     cases this
   subst hid
   have ho : ops[i]? = some ops.toList[i] := by rw [← Array.getElem?_toList]; exact List.getElem?_eq_getElem hdl
   have hw2 : wpOp P ops Q i (wpList P ops Q (ops.toList.drop (i + 1))) a W := by
    unfold wpOp
    rw [ho]
    exact hw
   refine wpOp_mono (fun a' w' h => ?_) hw2
   refine ih (i + 1) _ a' w' fuel (by omega) (by omega) (by omega) (by rw [Array.size_setIfInBounds]; exact hls) (hcl.set hi) (fun j hj => ?_) (fun j hj hjl => ?_) h
   ·by_cases hji : j = i
    ·subst hji; exact hset1 l j (by omega) _
    ·rw [hset l i j hji]; exact hall j (by omega)
   ·rw [hset l i j (by omega)]
    exact hun j (by omega) hjl
 refine wp_region_any hm ?_
 have key : ∀ (fuel : Nat) (l : Array Bool) (B : Nat → Prop) (a : Act) (W : World), AX a0 w.drew L E X m V (fun i => l.getD i false) B a W → l.size = L.length → ListedClosed .any ops l → (∀ i, m ≤ i → i < L.length → l.getD i true = false) → (List.range L.length).countP (fun i => !l.getD i true) ≤ fuel → wpAny P .any ops Q fuel l a W := by
  intro fuel
  induction fuel with
  | zero =>
   intro l B a W inv hls hcl hun hf
   have h0 : (List.range L.length).countP (fun i => !l.getD i true) = 0 := by omega
   rw [List.countP_eq_zero] at h0
   exact absurd (by rw [hun m (Nat.le_refl _) c1]; rfl) (h0 m (List.mem_range.2 c1))
  | succ fuel ih =>
   intro l B a W inv hls hcl hun hf
   refine ⟨fun hr => absurd hr (hfirst l hls ⟨m, c1, hun m (Nat.le_refl _) c1⟩), fun i hi => ?_⟩
   obtain ⟨h1, o, ho, h2'⟩ := mem_ready.1 hi
   have h2 := hneed i o l ho h2'
   have hil : i < L.length := by rw [← hsz]; exact (Array.getElem?_eq_some_iff.1 ho).1
   by_cases him : i < m
   ·unfold wpOp
    rw [ho]
    simp only
    have hst := Each.at m 0 ops.toList step i o him (by rw [Array.getElem?_toList]; exact ho)
    rw [Nat.zero_add] at hst
    have hnj : ∀ j, l.getD j false = true → j < L.length → ((T.2.getD j ([], [])).1).contains i = false := by
     intro j hjl hjL
     cases hcc : ((T.2.getD j ([], [])).1).contains i with
     | false => rfl
     | true =>
      exfalso
      have hjs : j < ops.size := by rw [hsz]; exact hjL
      have hoj : ops[j]? = some (ops[j]'hjs) := Array.getElem?_eq_getElem hjs
      have := hneed j _ l hoj (fun e he hb => hcl j _ hoj hjl e he hb) i hcc
      have h9 := g1 l i (by omega) h1
      rw [this] at h9
      cases h9
    have hgo3 : ∀ (B' : Nat → Prop) v W', (∀ t, E[i]? = some (some t) → (V.getD i VP.any).p B' W' ((a.put o.dst v).eval (.tmp t))) → (∀ j s t, j < m → j ≠ i → l.getD j false = true → X.contains i = true → X.contains j = true → L[i]? = some (some s) → L[j]? = some (some t) → v ≠ a.eval (.tmp t)) → Below w.drew.heap.size W W' → (∀ (j t : Nat), j < m → j ≠ i → ((T.2.getD j ([], [])).1).contains i = false → E[j]? = some (some t) → (V.getD j VP.any).p B W (a.eval (.tmp t)) → (V.getD j VP.any).p B' W' (a.eval (.tmp t))) → (∀ k, B' k → w.drew.heap.size ≤ k ∧ k < W'.heap.size) → wpAny P .any ops Q fuel (l.setIfInBounds i true) (a.put o.dst v) W' := by
     intro B' v W' hv hXX hb hmv hB2
     refine ih _ B' _ _ (inv.step him (hdst i o ho) (hset1 l i (by omega) _) (fun j hj => hset l i j hj _) huniq (fun i t h3 h4 => by rw [hn]; exact hlt i t h3 h4) hv (fun j t hj hne hjl hjt hNt => by
      rcases hE j t hj hjt with h | ⟨k, hk, hkm, hkt⟩
      ·have h8 := hdst i o ho
       rw [hNt] at h8
       exact hne (huniq j i t hj him h h8)
      ·have h8 := hdst i o ho
       rw [hNt] at h8
       have hki := huniq k i t hkm him hkt h8
       subst hki
       rw [hnj j hjl (by omega)] at hk
       cases hk) hXX hb (fun j t hj hne hjl hjt hp => hmv j t hj hne (hnj j hjl (by omega)) hjt hp) hB2) (by rw [Array.size_setIfInBounds]; exact hls) (hcl.set hi) (fun j hj hjl => by rw [hset l i j (by omega)]; exact hun j hj hjl) ?_
     have := countP_lt (p := fun j => !l.getD j true) (q := fun j => !(l.setIfInBounds i true).getD j true) (List.range L.length) (fun j _ hq => by
      by_cases hji : j = i
      ·subst hji
       rw [hset1 l j (by omega)] at hq
       cases hq
      ·rwa [hset l i j hji] at hq) ⟨i, List.mem_range.2 hil, by rw [h1]; rfl, by rw [hset1 l i (by omega)]; rfl⟩
     omega
    have hself : ∀ (B' : Nat → Prop) v W', o.dst.isSome = true → (V.getD i VP.any).p B' W' v → ∀ t, E[i]? = some (some t) → (V.getD i VP.any).p B' W' ((a.put o.dst v).eval (.tmp t)) := by
     intro B' v W' hsm hv t hit
     obtain ⟨s, hs⟩ := Option.isSome_iff_exists.1 hsm
     have h8 := hdst i o ho
     rw [hs] at h8
     have hst := hE2 i s t him hit h8
     subst hst
     rw [hs, put_same (by rw [inv.size, hn]; exact hlt i s him h8)]
     exact hv
    have hgo : ∀ (B' : Nat → Prop) v W', o.dst.isSome = true → (V.getD i VP.any).p B' W' v → (∀ j s t, j < m → j ≠ i → l.getD j false = true → X.contains i = true → X.contains j = true → L[i]? = some (some s) → L[j]? = some (some t) → v ≠ a.eval (.tmp t)) → Below W.heap.size W W' → (∀ k, B k → B' k) → (∀ k, B' k → B k ∨ W.heap.size ≤ k) → (∀ k, B' k → w.drew.heap.size ≤ k ∧ k < W'.heap.size) → wpAny P .any ops Q fuel (l.setIfInBounds i true) (a.put o.dst v) W' :=
     fun B' v W' hsm hv hXX hb hB0 hB1 hB2 => hgo3 B' v W' (hself B' v W' hsm hv) hXX (hb.mono inv.below.size) (fun j t _ _ _ _ h => (V.getD j VP.any).move B B' _ _ _ hb hB0 hB1 h) hB2
    have hst2 := hst a W B inv.below inv.boxes (fun t ht => inv.other t (fun j hj hjt => absurd (List.contains_iff_mem.2 (List.mem_of_getElem? (i := j) (by rw [List.getElem?_take_of_lt hj]; exact hjt))) (by rw [ht]; simp)))
     (fun j t hj hjt => by
      have hjm : j < m := by
       have := List.all_eq_true.1 c5 i (List.mem_range.2 hil)
       have := List.all_eq_true.1 this j (List.contains_iff_mem.1 hj)
       simp only [decide_eq_true_eq] at this
       omega
      exact inv.vals j t hjm hjt (h2 j hj)) (wpAny P .any ops Q fuel (l.setIfInBounds i true))
     (fun v W' hv hb hsx => by
      rw [Bool.and_eq_true] at hsx
      exact hgo B v W' hsx.1 hv (fun j s t _ _ _ hXi => by rw [hXi] at hsx; exact absurd hsx.2 (by simp)) hb (fun k hk => hk) (fun k hk => .inl hk) (fun k hk => ⟨(inv.boxes k hk).1, Nat.lt_of_lt_of_le (inv.boxes k hk).2 hb.size⟩))
     (fun v W' hv hb hlt2 hveq hsm => hgo _ v W' hsm hv (fun j s t hj hne hjl _ hXj _ hjt => by
      rw [hveq]
      have hjE : E[j]? = some (some t) := by
       have h := List.all_eq_true.1 c6 j (List.mem_range.2 hj)
       have hLg : L.getD j none = some t := by rw [List.getD_eq_getElem?_getD, hjt]; rfl
       rw [hLg, Bool.or_eq_true, Bool.and_eq_true] at h
       rcases h with h | h
       ·have h5 := beq_iff_eq.1 h
        rw [List.getD_eq_getElem?_getD] at h5
        cases hx : E[j]? with
        | none => rw [hx] at h5; cases h5
        | some y => rw [hx] at h5; exact congrArg some h5
       ·exact absurd (beq_iff_eq.1 h.1) (by simp)
      exact Ne.symm (hXV j hXj B W _ (fun k hk => (inv.boxes k hk).2) (inv.vals j t hj hjE hjl))) hb (fun k hk => .inl hk) (fun k hk => hk.elim .inl (fun h => .inr (Nat.le_of_eq h.symm))) (fun k hk => hk.elim (fun hk => ⟨(inv.boxes k hk).1, Nat.lt_of_lt_of_le (inv.boxes k hk).2 hb.size⟩) (fun h => by rw [h]; exact ⟨inv.below.size, hlt2⟩)))
     (fun W' hv hb hmv hdn hXi => by
      have h9 := hgo3 B undef W' (fun t ht => by rw [hdn]; exact hv t ht) (fun j s t _ _ _ hX2 => by rw [hXi] at hX2; cases hX2) hb hmv (fun k hk => ⟨(inv.boxes k hk).1, Nat.lt_of_lt_of_le (inv.boxes k hk).2 hb.size⟩)
      rw [hdn] at h9
      exact h9)
    by_cases hw : Region.wanted o (yielded ops a.tmps) = true
    ·rw [if_pos hw] at hst2 ⊢
     exact .inl hst2
    ·rw [if_neg hw] at hst2 ⊢
     exact hst2
   ·have hall := htail l i hcl hls (by omega) hi
    have hime : i = m := by
     rcases Nat.lt_or_ge m i with h | h
     ·have := hall m h
      rw [g1 l m (by omega) (hun m (Nat.le_refl _) c1)] at this
      cases this
     ·omega
    subst hime
    have hl := last (fun t => a.eval (.tmp t)) a W B inv.filled inv.below inv.boxes (fun j t hj hjt => inv.vals j t hj hjt (hall j hj)) (fun j k s t hj hk h3 h4 h5 h6 h7 => inv.sep j k s t hj hk h3 h4 h5 h6 h7 (hall j hj) (hall k hk))
    rw [← hR] at hl
    have hdl : i < ops.toList.length := by rw [Array.length_toList]; omega
    rw [List.drop_eq_getElem_cons hdl] at hl
    have ho2 : ops[i]? = some ops.toList[i] := by rw [← Array.getElem?_toList]; exact List.getElem?_eq_getElem hdl
    have hw2 : wpOp P ops Q i (wpList P ops Q (ops.toList.drop (i + 1))) a W := by
     unfold wpOp
     rw [ho2]
     exact hl
    refine wpOp_mono (fun a' w' h => ?_) hw2
    refine tail (L.length - (i + 1)) (i + 1) _ a' w' fuel (by omega) (by omega) ?_ (by rw [Array.size_setIfInBounds]; exact hls) (hcl.set hi) (fun j hj => ?_) (fun j hj hjl => ?_) h
    ·have hle : L.length - i ≤ (List.range L.length).countP (fun j => !l.getD j true) := by
      have hcount : ∀ (k : Nat), k ≤ L.length → k - i ≤ (List.range k).countP (fun j => !l.getD j true) := by
       intro k
       induction k with
       | zero => intro _; omega
       | succ k ihk =>
        intro hk
        rw [List.range_succ, List.countP_append, List.countP_cons, List.countP_nil]
        have := ihk (by omega)
        by_cases hki : i ≤ k
        ·rw [hun k hki (by omega)]
         simp only [Bool.not_false, if_true]
         omega
        ·omega
      exact hcount L.length (Nat.le_refl _)
     omega
    ·by_cases hji : j = i
     ·subst hji; exact hset1 l j (by omega) _
     ·rw [hset l i j hji]; exact hall j (by omega)
    ·rw [hset l i j (by omega)]
     exact hun j (by omega) hjl
 refine key ops.size _ (fun _ => False) a0 w.drew (AX.start a0 w.drew L E X m V (fun i => ?_)) (by rw [Array.size_replicate, hsz]) (fun j oj hj hl => ?_) (fun i _ hi => ?_) ?_
 ·by_cases hi : i < ops.size <;> simp [Array.getD_eq_getD_getElem?, hi]
 ·exfalso
  by_cases hi : j < ops.size <;> simp [Array.getD_eq_getD_getElem?, hi] at hl
 ·simp [Array.getD_eq_getD_getElem?, hsz, hi]
 ·rw [hsz]
  exact Nat.le_trans List.countP_le_length (by simp)
def seqT (n : Nat) : Bool × List (List Nat × List Nat) := (true, (List.range n).map (fun i => (List.range i, [])))
def okS (L : List (Option Tmp)) (n m : Nat) : Bool :=
 decide (m ≤ L.length) && (L.take m).all (fun N => match N with | some t => decide (t < n) | none => true) && decide (L.take m).Nodup
theorem seq_x {id : Nat} {a0 : Act} {w : World} {R : List Oper} (L : List (Option Tmp)) (n m : Nat) (V : List VP) (hL : ops.toList.map (·.dst) = L) (hn : a0.tmps.size = n) (hc : okS L n m = true) (hR : ops.toList.drop m = R)
  (step : Each (StepX P ops Q a0 w L L [] (seqT m) V m) m 0 ops.toList) (last : TailX P ops Q a0 w L L [] m V R) : (Code.region id ops false).wp P Q a0 w := by
 simp only [okS, Bool.and_eq_true, decide_eq_true_eq] at hc
 obtain ⟨⟨c1, c2⟩, c3⟩ := hc
 have hsz : ops.size = L.length := by rw [← hL]; simp
 have hdst : ∀ (i : Nat) (o : Oper), ops[i]? = some o → L[i]? = some o.dst := by
  intro i o ho
  rw [← hL, List.getElem?_map, Array.getElem?_toList, ho]
  rfl
 have hlt : ∀ (i : Nat) (t : Tmp), i < m → L[i]? = some (some t) → t < n := by
  intro i t hi ht
  have := List.all_eq_true.1 c2 (some t) (List.mem_of_getElem? (i := i) (by rw [List.getElem?_take_of_lt hi]; exact ht))
  simpa using this
 have huniq : ∀ (i j : Nat) (t : Tmp), i < m → j < m → L[i]? = some (some t) → L[j]? = some (some t) → i = j := by
  intro i j t hi hj h1 h2
  exact nodup_get c3 (by rw [List.getElem?_take_of_lt hi]; exact h1) (by rw [List.getElem?_take_of_lt hj]; exact h2)
 refine wp_region_list ?_
 have key : ∀ (q d : Nat) (B : Nat → Prop) (a : Act) (W : World), d + q = m → AX a0 w L L [] m V (fun i => decide (i < d)) B a W → wpList P ops Q (ops.toList.drop d) a W := by
  intro q
  induction q with
  | zero =>
   intro d B a W hd inv
   obtain rfl : d = m := by omega
   rw [hR]
   exact last (fun t => a.eval (.tmp t)) a W B inv.filled inv.below inv.boxes (fun j t hj hjt => inv.vals j t hj hjt (decide_eq_true hj)) (fun _ _ _ _ _ _ _ h => by cases h)
  | succ q ih =>
   intro d B a W hd inv
   have hdl : d < ops.toList.length := by rw [Array.length_toList]; omega
   have ho : ops[d]? = some ops.toList[d] := by rw [← Array.getElem?_toList]; exact List.getElem?_eq_getElem hdl
   rw [List.drop_eq_getElem_cons hdl]
   have hst := Each.at m 0 ops.toList step d _ (by omega) (List.getElem?_eq_getElem hdl)
   rw [Nat.zero_add] at hst
   have hTn : ((seqT m).2.getD d ([], [])).1 = List.range d := by
    have hdm : d < m := by omega
    simp [seqT, List.getD_eq_getElem?_getD, List.getElem?_range hdm]
   have hgo3 : ∀ (B' : Nat → Prop) v W', (∀ t, L[d]? = some (some t) → (V.getD d VP.any).p B' W' ((a.put ops.toList[d].dst v).eval (.tmp t))) → Below w.heap.size W W' → (∀ (j t : Nat), j < m → j ≠ d → decide (j < d) = true → L[j]? = some (some t) → (V.getD j VP.any).p B W (a.eval (.tmp t)) → (V.getD j VP.any).p B' W' (a.eval (.tmp t))) → (∀ k, B' k → w.heap.size ≤ k ∧ k < W'.heap.size) → wpList P ops Q (ops.toList.drop (d + 1)) (a.put ops.toList[d].dst v) W' := by
    intro B' v W' hv hb hmv hB2
    exact ih (d + 1) B' _ _ (by omega) (inv.step (by omega) (hdst d _ ho) (decide_eq_true (by omega)) (fun j hj => by rw [decide_eq_decide]; omega) huniq (fun i t h3 h4 => by rw [hn]; exact hlt i t h3 h4) hv (fun j t hj hne hjl hjt hNt => by
     have h8 := hdst d _ ho
     rw [hNt] at h8
     exact hne (huniq j d t hj (by omega) hjt h8)) (fun j s t _ _ _ h => by cases h) hb hmv hB2)
   have hself : ∀ (B' : Nat → Prop) v W', (V.getD d VP.any).p B' W' v → ∀ t, L[d]? = some (some t) → (V.getD d VP.any).p B' W' ((a.put ops.toList[d].dst v).eval (.tmp t)) := by
    intro B' v W' hv t hit
    have h8 := hdst d _ ho
    rw [hit] at h8
    rw [← Option.some.inj h8, put_same (by rw [inv.size, hn]; exact hlt d t (by omega) hit)]
    exact hv
   have hgo : ∀ (B' : Nat → Prop) v W', (V.getD d VP.any).p B' W' v → Below W.heap.size W W' → (∀ k, B k → B' k) → (∀ k, B' k → B k ∨ W.heap.size ≤ k) → (∀ k, B' k → w.heap.size ≤ k ∧ k < W'.heap.size) → wpList P ops Q (ops.toList.drop (d + 1)) (a.put ops.toList[d].dst v) W' :=
    fun B' v W' hv hb hB0 hB1 hB2 => hgo3 B' v W' (hself B' v W' hv) (hb.mono inv.below.size) (fun j t _ _ _ _ h => (V.getD j VP.any).move B B' _ _ _ hb hB0 hB1 h) hB2
   have hst2 := hst a W B inv.below inv.boxes (fun t ht => inv.other t (fun j hj hjt => absurd (List.contains_iff_mem.2 (List.mem_of_getElem? (i := j) (by rw [List.getElem?_take_of_lt hj]; exact hjt))) (by rw [ht]; simp)))
    (fun j t hj hjt => by
     rw [hTn] at hj
     have hjd : j < d := List.mem_range.1 (List.contains_iff_mem.1 hj)
     exact inv.vals j t (by omega) hjt (decide_eq_true hjd)) (wpList P ops Q (ops.toList.drop (d + 1)))
    (fun v W' hv hb _ => hgo B v W' hv hb (fun k hk => hk) (fun k hk => .inl hk) (fun k hk => ⟨(inv.boxes k hk).1, Nat.lt_of_lt_of_le (inv.boxes k hk).2 hb.size⟩))
    (fun v W' hv hb hlt2 _ _ => hgo _ v W' hv hb (fun k hk => .inl hk) (fun k hk => hk.elim .inl (fun h => .inr (Nat.le_of_eq h.symm))) (fun k hk => hk.elim (fun hk => ⟨(inv.boxes k hk).1, Nat.lt_of_lt_of_le (inv.boxes k hk).2 hb.size⟩) (fun h => by rw [h]; exact ⟨inv.below.size, hlt2⟩)))
    (fun W' hv hb hmv hdn _ => by
     have h9 := hgo3 B undef W' (fun t ht => by rw [hdn]; exact hv t ht) hb (fun j t hj hne hjl hjt h => hmv j t hj hne (by
      have hjm : j < m := hj
      have hTj : ((seqT m).2.getD j ([], [])).1 = List.range j := by simp [seqT, List.getD_eq_getElem?_getD, List.getElem?_range hjm]
      have hjd : j < d := of_decide_eq_true hjl
      rw [hTj]
      cases hcc : (List.range j).contains d with
      | false => rfl
      | true => exact absurd (List.mem_range.1 (List.contains_iff_mem.1 hcc)) (by omega)) hjt h) (fun k hk => ⟨(inv.boxes k hk).1, Nat.lt_of_lt_of_le (inv.boxes k hk).2 hb.size⟩)
     rw [hdn] at h9
     exact h9)
   by_cases hw : Region.wanted ops.toList[d] (yielded ops a.tmps) = true
   ·rw [if_pos hw] at hst2
    show (if _ then _ else _)
    rw [if_pos hw]
    exact .inl hst2
   ·rw [if_neg hw] at hst2
    show (if _ then _ else _)
    rw [if_neg hw]
    exact hst2
 have := key m 0 (fun _ => False) a0 w (by omega) (AX.start a0 w L L [] m V (fun i => decide_eq_false (Nat.not_lt_zero i)))
 rwa [List.drop_zero] at this
end
theorem inf31 : (Try.prog.info? 31).map (fun i => (i.zero, i.size, i.bytes)) = some (some (.agg #[.int .i64 0, .int .i64 0, .slice none 0 0]), 3, 40) := by kernel_rfl
def FP (w : World) (S : Nat → Prop) (v : Value) (k : Nat) : Prop := (w.heap.size ≤ k ∧ ¬ S k) ∧ some k ≠ v.ownBlock
theorem EXs.after {ok : Nat → Prop} {W w1 : World} {u v v1 : Value} {xs : List S31} (h : EXs (fun k => ok k ∧ some k ≠ u.ownBlock) W v xs) (hg : W.grownBy w1 u.ownBlock) (hat : v1.ownBlock = u.ownBlock ∨ ∃ b, v1.ownBlock = some b ∧ W.heap.size ≤ b) : EXs (fun k => ok k ∧ some k ≠ v1.ownBlock) w1 v xs := by
 obtain ⟨A, c, e, hl, hF⟩ := h
 exact ⟨A, c, e, hl, Kd.F_after hF hg hat⟩
theorem EXv.after {ok : Nat → Prop} {W w1 : World} {u v v1 : Value} {x : S31} (h : EXv (fun k => ok k ∧ some k ≠ u.ownBlock) W v x) (hg : W.grownBy w1 u.ownBlock) (hat : v1.ownBlock = u.ownBlock ∨ ∃ b, v1.ownBlock = some b ∧ W.heap.size ≤ b) : EXv (fun k => ok k ∧ some k ≠ v1.ownBlock) w1 v x := by
 obtain ⟨A, c, e, hl, hF⟩ := h
 exact ⟨A, c, e, hl, Kd.F_after hF hg hat⟩
structure St (w : World) (S : Nat → Prop) (W : World) (v : Value) (out : List S31) (va vb : Value) (a b : List S31) : Prop where
 base : Below w.heap.size w W
 bnd : ∀ k, S k → w.heap.size ≤ k ∧ k < W.heap.size
 row : Kd.N k31 31 W w.heap.size (fun k => w.heap.size ≤ k ∧ ¬ S k) v out
 a : EXs (FP w S v) W va a
 b : EXs (FP w S v) W vb b
structure Bx (w : World) (S : Nat → Prop) (W : World) (v : Value) (g : Nat) (A : Option Addr) (c : Nat) (x : S31) : Prop where
 blk : W.heap[g]? = some (.cells #[.int .i64 x.f0, .int .i64 x.f1, .slice A x.f2.length c] 31 (0, 0))
 val : EXv (FP w S v) W (.agg #[.int .i64 x.f0, .int .i64 x.f1, .slice A x.f2.length c]) x
section
variable {w W W' : World} {S : Nat → Prop} {v v1 va vb : Value} {out : List S31} {a b : List S31} {g : Nat} {A : Option Addr} {c : Nat} {x : S31}
theorem St.below (h : St w S W v out va vb a b) (hb : Below W.heap.size W W') : St w S W' v out va vb a b :=
 ⟨h.base.trans (hb.mono h.base.size), fun k hk => ⟨(h.bnd k hk).1, Nat.lt_of_lt_of_le (h.bnd k hk).2 hb.size⟩, Kd.N_below h.row hb, EXs.move h.a hb, EXs.move h.b hb⟩
theorem Bx.below (h : Bx w S W v g A c x) (hb : Below W.heap.size W W') : Bx w S W' v g A c x := ⟨blk_below h.blk hb, EXv.move h.val hb⟩
theorem FP.fresh (h : St w S W v out va vb a b) : ∀ k, W.heap.size ≤ k → FP w S v k := fun k hk => ⟨⟨Nat.le_trans h.base.size hk, fun hs => Nat.lt_irrefl _ (Nat.lt_of_lt_of_le (h.bnd k hs).2 hk)⟩, fun e => Nat.lt_irrefl _ (Nat.lt_of_lt_of_le (Kd.N_lt h.row k e.symm) hk)⟩
theorem St.write (h : St w S W v out va vb a b) (hs : S g) (hw : Wr g W W') : St w S W' v out va vb a b :=
 have hne : ∀ k, FP w S v k → ¬ (k = g) := fun k hk e => hk.1.2 (by rw [e]; exact hs)
 ⟨hw.below _ h.base (h.bnd g hs).1, fun k hk => ⟨(h.bnd k hk).1, Nat.lt_of_lt_of_le (h.bnd k hk).2 hw.kept.1⟩, Kd.N_kept h.row hw.kept (fun k hk e => hk.2 (by rw [e]; exact hs)), EXs.kept h.a hw.kept hne, EXs.kept h.b hw.kept hne⟩
theorem Bx.write {g9 : Nat} (h : Bx w S W v g A c x) (hs : S g9) (hne : g ≠ g9) (hw : Wr g9 W W') : Bx w S W' v g A c x :=
 ⟨blk_kept h.blk hw.kept hne, EXv.kept h.val hw.kept (fun k hk e => hk.1.2 (by rw [e]; exact hs))⟩
theorem Bx.after (h : Bx w S W v g A c x) (hN : some g ≠ v.ownBlock) (hg : W.grownBy W' v.ownBlock) (hat : v1.ownBlock = v.ownBlock ∨ ∃ b, v1.ownBlock = some b ∧ W.heap.size ≤ b) : Bx w S W' v1 g A c x :=
 ⟨blk_grown h.blk hg hN, EXv.after h.val hg hat⟩
theorem St.away (h : St w S W v out va vb a b) (hs : S g) : some g ≠ v.ownBlock := Kd.N_away h.row (fun k hk e => hk.2 (by rw [e]; exact hs))
end
section
variable {ops : Array Oper} {Q : Exit → Act → World → Prop} {o : Oper} {rest : List Oper} {bq : Act} {W : World} {s s1 s2 : Tmp}
theorem app_ev {w : World} {S : Nat → Prop} {v va vb : Value} {out a b : List S31} {z : S31} (hgd : o.guard = none) (ho : o.op = .call { callee := .builtin .append, args := #[.tmp s1, .tmp s2], argTypes := #[29, 29] }) (hs : bq.eval (.tmp s1) = v) (hx : EXs (FP w S v) W (bq.eval (.tmp s2)) [z]) (h : St w S W v out va vb a b) (hl : out.length ≤ 1000)
  (K : ∀ v1 w1, St w S w1 v1 (out ++ [z]) va vb a b → W.grownBy w1 v.ownBlock → (v1.ownBlock = v.ownBlock ∨ ∃ b, v1.ownBlock = some b ∧ W.heap.size ≤ b) → wpList Try.prog ops Q rest (bq.put o.dst v1) w1) : wpList Try.prog ops Q (o :: rest) bq W := by
 obtain ⟨A, c, e, hlc, hF⟩ := hx
 have hlen : ([z] : List S31).length = 1 := rfl
 rw [hlen] at e hF
 refine Kd.N_append_rows k31 (w0 := w) w.heap.size hgd (.tmp s1) (.tmp s2) 29 31 (.agg #[.int .i64 0, .int .i64 0, .slice none 0 0]) 40 ho Try.underlying29 inf31 rfl (by decide) (by decide) v out [z] A 1 c (fun k => w.heap.size ≤ k ∧ ¬ S k) (FP w S v) hs e h.row hF (fun k hk => hk) (fun k hk => (FP.fresh h k hk).1) h.base h.base.size (by omega) ?_
 intro v1 w1 hN hb hg hat
 exact K v1 w1 ⟨hb, fun k hk => ⟨(h.bnd k hk).1, Nat.lt_of_lt_of_le (h.bnd k hk).2 hg.size⟩, hN, EXs.after h.a hg hat, EXs.after h.b hg hat⟩ hg hat
theorem sto_ev {ok : Nat → Prop} {x : S31} {g : Nat} {u0 u1 u2 : Value} (hd : o.dst = none) (hg : o.guard = none) (ho : o.op = .store 31 (.tmp s) (.tmp s2)) (hu : bq.eval (.tmp s) = .pointer (some ⟨g, 0, none⟩)) (hv : EXv ok W (bq.eval (.tmp s2)) x) (hb : W.heap[g]? = some (.cells #[u0, u1, u2] 31 (0, 0)))
  (hK : ∀ W' A c, W'.heap[g]? = some (.cells #[.int .i64 x.f0, .int .i64 x.f1, .slice A x.f2.length c] 31 (0, 0)) → EXv ok W (.agg #[.int .i64 x.f0, .int .i64 x.f1, .slice A x.f2.length c]) x → Wr g W W' → wpList Try.prog ops Q rest bq W') : wpList Try.prog ops Q (o :: rest) bq W := by
 refine wpList_plain hg fun K hKK => ?_
 have h := st_stepE (ops := ops) (Q := Q) (K := K) hd hg ho hu hv hb (fun W' A c h1 h2 h3 => hKK _ _ (hK W' A c h1 h2 h3))
 rwa [if_pos (by unfold Region.wanted; rw [hg])] at h
end
section
variable {ops : Array Oper} {Q : Exit → Act → World → Prop} {o : Oper} {b : Act} {W : World} {K : Act → World → Prop} {s s1 s2 : Tmp}
theorem fa_step {g i : Nat} (hg : o.guard = none) (ho : o.op = .fieldAddr 81 (.tmp s) i) (hu : b.eval (.tmp s) = .pointer (some ⟨g, 0, none⟩)) (hi : i = 2) (hK : K (b.put o.dst (.pointer (some ⟨g, i, none⟩))) W) :
  if Region.wanted o (yielded ops b.tmps) = true then Oper.wp Try.prog o b W K Q else K (b.put o.dst undef) W := by
 subst hi
 refine value_ (by unfold Region.wanted; rw [hg]) rfl (v := .pointer (some ⟨g, 2, none⟩)) (w1 := W) ?_ hK
 have hu81 := Try.underlying81
 unfold execOp
 rw [ho]
 simp only [hu]
 go_simp
theorem ld79_step {ad : Addr} {v : Value} (hg : o.guard = none) (ho : o.op = .load 79 (.tmp s)) (hu : b.eval (.tmp s) = .pointer (some ad)) (h0 : W.cell? ad = some v) (hK : K (b.put o.dst v) W) :
  if Region.wanted o (yielded ops b.tmps) = true then Oper.wp Try.prog o b W K Q else K (b.put o.dst undef) W := by
 refine value_ (by unfold Region.wanted; rw [hg]) rfl (v := v) (w1 := W) ?_ hK
 have hu79 := Try.underlying79
 unfold execOp
 rw [ho]
 simp only [hu]
 go_simp
theorem ix79_step {ad : Addr} {n c i : Nat} (hg : o.guard = none) (ho : o.op = .indexAddr 79 (.tmp s) (.const (.int .i64 i))) (hu : b.eval (.tmp s) = .slice (some ad) n c) (h : i < n) (hn : n ≤ 9223372036854775807) (hK : K (b.put o.dst (.pointer (some (ad.add (i * 3))))) W) :
  if Region.wanted o (yielded ops b.tmps) = true then Oper.wp Try.prog o b W K Q else K (b.put o.dst undef) W := by
 refine value_ (by unfold Region.wanted; rw [hg]) rfl (v := .pointer (some (ad.add (i * 3)))) (w1 := W) ?_ hK
 have h0 : (0 : Int) ≤ (i : Int) := by omega
 have h1 : (i : Int) < (n : Int) := by omega
 unfold execOp
 rw [ho]
 simp only [hu]
 go_simp
theorem ld81_step {ad : Addr} {f0 f1 : Int} {v2 : Value} (hg : o.guard = none) (ho : o.op = .load 81 (.tmp s)) (hu : b.eval (.tmp s) = .pointer (some ad)) (h0 : W.cell? ad = some (.int .i64 f0)) (h1 : W.cell? ⟨ad.block, ad.off + 1, none⟩ = some (.int .i64 f1)) (h2 : W.cell? ⟨ad.block, ad.off + 2, none⟩ = some v2) (hK : K (b.put o.dst (.agg #[.int .i64 f0, .int .i64 f1, v2])) W) :
  if Region.wanted o (yielded ops b.tmps) = true then Oper.wp Try.prog o b W K Q else K (b.put o.dst undef) W := by
 refine value_ (by unfold Region.wanted; rw [hg]) rfl (v := .agg #[.int .i64 f0, .int .i64 f1, v2]) (w1 := W) ?_ hK
 have hu81 := Try.underlying81
 unfold execOp
 rw [ho]
 simp only [hu]
 go_simp
theorem rec_step {f : Nat} {fn : Func} {ok : Nat → Prop} {u n : Value} {r : List S31} {ts : Array TypeId} {N : Tmp} (hf : Try.prog.funcs[f]? = some fn) (hnm : (fn.name == "runtime.NumGoroutine") = false) (hbd : fn.body.isSome = true) (hd : o.dst = some N) (hg : o.guard = none) (ho : o.op = .call { callee := .value (.func f), args := #[.tmp s, .tmp s2], argTypes := ts }) (h1 : b.eval (.tmp s) = u) (h2 : b.eval (.tmp s2) = n)
  (hc : Calls Try.prog f #[u, n] W fun e w' => ∃ v, e = .returned v ∧ EXs (fun k => W.heap.size ≤ k) w' v r ∧ Below W.heap.size W w') (hok : ∀ k, W.heap.size ≤ k → ok k)
  (hK : ∀ v W', EXs ok W' v r → Below W.heap.size W W' → K (b.put o.dst v) W') :
  if Region.wanted o (yielded ops b.tmps) = true then Oper.wp Try.prog o b W K Q else K (b.put o.dst undef) W := by
 refine goes_ hf hnm hbd #[u, n] (by unfold Region.wanted; rw [hg]) rfl ho (by simp only [List.map_toArray, List.map_cons, List.map_nil, h1, h2]) ?_
 refine hc.mono ?_
 rintro e w' ⟨v, rfl, hv, hb⟩
 exact ⟨_, rfl, hK _ _ (EXs.mono hv hok) hb⟩
theorem al_x (hg : o.guard = none) (ho : o.op = .alloc 31) (hK : ∀ W', W'.heap[W.heap.size]? = some (.cells #[.int .i64 0, .int .i64 0, .slice none 0 0] 31 (0, 0)) → Below W.heap.size W W' → W.heap.size < W'.heap.size → K (b.put o.dst (.pointer (some ⟨W.heap.size, 0, none⟩))) W') :
  if Region.wanted o (yielded ops b.tmps) = true then Oper.wp Try.prog o b W K Q else K (b.put o.dst undef) W :=
 al_step hg ho (fun W' h hb hl => by
  obtain ⟨g, e, h1, h2, h3⟩ := h
  subst h2
  exact hK W' h3 hb hl)
end
def VP.bxT (n : Nat) : VP := ⟨fun B W v => ∃ g u0 u1 u2, v = .pointer (some ⟨g, 0, none⟩) ∧ n ≤ g ∧ B g ∧ W.heap[g]? = some (.cells #[u0, u1, u2] 31 (0, 0)), fun B B' W W' v hb h1 _ h => by
 obtain ⟨g, u0, u1, u2, e, hn, hB, hg⟩ := h
 exact ⟨g, u0, u1, u2, e, hn, h1 g hB, blk_below hg hb⟩⟩
def VP.bxE (n : Nat) (ok : Nat → Prop) (x : S31) : VP := ⟨fun B W v => ∃ g A c, v = .pointer (some ⟨g, 0, none⟩) ∧ n ≤ g ∧ B g ∧ W.heap[g]? = some (.cells #[.int .i64 x.f0, .int .i64 x.f1, .slice A x.f2.length c] 31 (0, 0)) ∧ EXv (fun k => ok k ∧ ¬ B k) W (.agg #[.int .i64 x.f0, .int .i64 x.f1, .slice A x.f2.length c]) x, fun B B' W W' v hb h1 h2 h => by
 obtain ⟨g, A, c, e, hn, hB, hg, hv⟩ := h
 exact ⟨g, A, c, e, hn, h1 g hB, blk_below hg hb, (VP.ex ok x).move B B' W W' _ hb h1 h2 hv⟩⟩
def VP.wr (V : VP) : Prop := ∀ B W W' g u0 u1 u2 v, B g → W'.heap[g]? = some (.cells #[u0, u1, u2] 31 (0, 0)) → Wr g W W' → V.p B W v → V.p B W' v
theorem VP.wr_eq (u : Value) : (VP.eq u).wr := fun _ _ _ _ _ _ _ _ _ _ _ h => h
theorem VP.wr_any : VP.any.wr := fun _ _ _ _ _ _ _ _ _ _ _ h => h
theorem VP.wr_ex (ok : Nat → Prop) (x : S31) : (VP.ex ok x).wr := fun B W W' g _ _ _ v hB _ hw h => EXv.kept h hw.kept (fun k hk e => hk.2 (by rw [e]; exact hB))
theorem VP.wr_bxT (n : Nat) : (VP.bxT n).wr := fun B W W' g u0 u1 u2 v hB hg' hw h => by
 obtain ⟨g2, q0, q1, q2, e, hn, hB2, hg⟩ := h
 by_cases hq : g2 = g
 ·subst hq
  exact ⟨g2, u0, u1, u2, e, hn, hB2, hg'⟩
 ·exact ⟨g2, q0, q1, q2, e, hn, hB2, blk_kept hg hw.kept hq⟩
def AllWr : List VP → Prop
 | [] => True
 | V :: r => V.wr ∧ AllWr r
theorem AllWr.get : ∀ (L : List VP), AllWr L → ∀ j, (L.getD j VP.any).wr
 | [], _, j => by rw [show ([] : List VP).getD j VP.any = VP.any by cases j <;> rfl]; exact VP.wr_any
 | V :: r, h, 0 => h.1
 | V :: r, h, j + 1 => AllWr.get r h.2 j
theorem st_x {ops : Array Oper} {Q : Exit → Act → World → Prop} {o : Oper} {b : Act} {W : World} {K : Act → World → Prop} {s s2 : Tmp} {ok : Nat → Prop} {x : S31} {g : Nat} {u0 u1 u2 : Value} (hd : o.dst = none) (hg : o.guard = none) (ho : o.op = .store 31 (.tmp s) (.tmp s2)) (hu : b.eval (.tmp s) = .pointer (some ⟨g, 0, none⟩)) (hv : EXv ok W (b.eval (.tmp s2)) x) (hb : W.heap[g]? = some (.cells #[u0, u1, u2] 31 (0, 0)))
  (hK : ∀ W' A c, W'.heap[g]? = some (.cells #[.int .i64 x.f0, .int .i64 x.f1, .slice A x.f2.length c] 31 (0, 0)) → EXv ok W (.agg #[.int .i64 x.f0, .int .i64 x.f1, .slice A x.f2.length c]) x → Wr g W W' → K b W') :
  if Region.wanted o (yielded ops b.tmps) = true then Oper.wp Try.prog o b W K Q else K (b.put o.dst undef) W := st_stepE hd hg ho hu hv hb hK
def constB (num : Int) (n : Nat) : List S31 := (List.range n).map fun i : Nat => ⟨2, Go.bits .and .i64 (shr .i64 num (i : Int)) 1, []⟩
def varB (num : Int) (n i : Nat) : List S31 := (List.range i).map fun j : Nat => ⟨1, num * n + (j : Int), []⟩
def rnd (kind : Int) (less : S31) : List S31 → List S31 → S31 → List S31 → List S31
 | x :: a, y :: b, carry, out => if kind = 3 then rnd kind less a b ⟨5, 0, [⟨4, 0, [x, y]⟩, ⟨4, 0, [carry, ⟨6, 0, [x, y]⟩]⟩]⟩ (out ++ [⟨6, 0, [⟨6, 0, [x, y]⟩, carry]⟩]) else if kind = 4 then rnd kind less a b carry (out ++ [⟨4, 0, [x, y]⟩]) else rnd kind less a b carry (out ++ [⟨7, 0, [less, x, y]⟩])
 | _, _, _, out => out
theorem rnd_nil (kind : Int) (less : S31) (b : List S31) (c : S31) (o : List S31) : rnd kind less [] b c o = o := by cases b <;> rfl
def twoKids (kids : List S81) (g : S81 → S81 → Option (List S31)) : Option (List S31) := match kids with
 | [x, y] => g x y
 | _ => none
def wbitsF (n : Nat) : Nat → Int → Int → List S81 → Option (List S31)
 | 0, _, _, _ => none
 | f + 1, kind, num, kids => if kind = 1 then some (constB num n) else if kind = 2 then (if 0 ≤ num ∧ num ≤ 100 then some (varB num n n) else none) else if 3 ≤ kind ∧ kind ≤ 5 then twoKids kids (fun x y => (wbitsF n f x.f0 x.f1 x.f2).bind fun a => (wbitsF n f y.f0 y.f1 y.f2).bind fun b => if a.length = n ∧ b.length = n then some (rnd kind (lessE a b) a b ⟨2, 0, []⟩ []) else none) else none
theorem constB_is (num : Int) (n : Nat) (hn : n ≤ 6) : impl_constBits.f 31 num n = some (constB num n) := by
 have key : ∀ (d k i : Nat), i + d = n → d < k → impl_constBits.l0 k num (constB num i) n i = some (constB num n) := by
  intro d
  induction d with
  | zero =>
   intro k i hi hk
   obtain ⟨k, rfl⟩ : ∃ q, k = q + 1 := ⟨k - 1, by omega⟩
   obtain rfl : i = n := by omega
   rw [impl_constBits.l0, if_neg (by omega)]
  | succ d ih =>
   intro k i hi hk
   obtain ⟨k, rfl⟩ : ∃ q, k = q + 1 := ⟨k - 1, by omega⟩
   have h1 : (i : Int) < (n : Int) := by omega
   have h2 : (0 : Int) ≤ (i : Int) := by omega
   have h3 : (constB num i).length = i := by simp [constB]
   rw [impl_constBits.l0, if_pos h1, if_pos h2]
   show (if (constB num i).length < 3518437208883 then impl_constBits.l0 k num (constB num i ++ [(⟨2, Go.bits .and .i64 (shr .i64 num (i : Int)) 1, []⟩ : S31)]) n (wrap64 ((i : Int) + 1)) else none) = _
   rw [if_pos (by omega), show wrap64 ((i : Int) + 1) = ((i + 1 : Nat) : Int) by unfold wrap64; omega, show constB num i ++ [(⟨2, Go.bits .and .i64 (shr .i64 num (i : Int)) 1, []⟩ : S31)] = constB num (i + 1) by simp [constB, List.range_succ]]
   exact ih k (i + 1) (by omega) (by omega)
 exact key n 31 0 (by omega) (by omega)
theorem mulb (num : Int) (n i : Nat) (h0 : 0 ≤ num) (h1 : num ≤ 100) (hn : n ≤ 6) (hi : i ≤ 6) : IntKind.i64.wrap (num * n) = num * n ∧ IntKind.i64.wrap (num * n + i) = num * n + i := by
 have h2 : 0 ≤ num * n := Int.mul_nonneg h0 (by omega)
 have h3 := Int.mul_le_mul h1 (show (n : Int) ≤ 6 by omega) (by omega) (by omega : (0 : Int) ≤ 100)
 exact ⟨IntWalk.i64_in _ (by omega), IntWalk.i64_in _ (by omega)⟩
theorem Wr.from {w0 W W' : World} {g : Nat} (h : Wr g W W') (hW : Below w0.heap.size w0 W) (hn : w0.heap.size ≤ g) : Below w0.heap.size W W' :=
 have q := h.below w0 hW hn
 ⟨q.os.trans hW.os.symm, q.tape.trans hW.tape.symm, q.output.trans hW.output.symm, h.kept.1, fun k hk => h.kept.2 k (Nat.lt_of_lt_of_le hk hW.size) (fun e => Nat.lt_irrefl _ (Nat.lt_of_lt_of_le hk (by rw [e]; exact hn)))⟩
section
variable {ops : Array Oper} {Q : Exit → Act → World → Prop} {o : Oper} {rest : List Oper} {bq : Act} {W : World}
theorem al_ev (hg : o.guard = none) (ho : o.op = .alloc 31) (h : ∀ W', W'.heap[W.heap.size]? = some (.cells #[.int .i64 0, .int .i64 0, .slice none 0 0] 31 (0, 0)) → Below W.heap.size W W' → wpList Try.prog ops Q rest (bq.put o.dst (.pointer (some ⟨W.heap.size, 0, none⟩))) W') : wpList Try.prog ops Q (o :: rest) bq W := by
 refine wpList_plain hg fun K hKK => ?_
 have h9 := al_x (ops := ops) (Q := Q) (K := K) (b := bq) (W := W) hg ho (fun W' h1 h2 _ => hKK _ _ (h W' h1 h2))
 rwa [if_pos (by unfold Region.wanted; rw [hg])] at h9
end
section
variable {ops : Array Oper} {Q : Exit → Act → World → Prop} {o : Oper} {b : Act} {W : World} {K : Act → World → Prop} {s s1 s2 : Tmp}
theorem cst_step {ok : Nat → Prop} {ts : Array TypeId} {N : Tmp} (hd : o.dst = some N) (hg : o.guard = none) (ho : o.op = .call { callee := .value (.func 88), args := #[.const (.int .i64 0)], argTypes := ts }) (hok : ∀ k, W.heap.size ≤ k → ok k)
  (hK : ∀ v W', EXv ok W' v (⟨2, 0, []⟩ : S31) → Below W.heap.size W W' → K (b.put o.dst v) W') :
  if Region.wanted o (yielded ops b.tmps) = true then Oper.wp Try.prog o b W K Q else K (b.put o.dst undef) W := by
 refine goes_ Try.func88 (by kernel_rfl) rfl #[.int .i64 0] (by unfold Region.wanted; rw [hg]) rfl ho (by simp only [List.map_toArray, List.map_cons, List.map_nil]; rfl) ?_
 refine (impl_constEx.calls 0 2 0 [] W rfl).mono ?_
 rintro e w' ⟨v0, rfl, hr0, hb0⟩
 exact ⟨_, rfl, hK _ _ (EXv.of (b := 0) (Kd.R_V (Kd.R_mono (Kd.R_bound hr0) (fun k hk => hok k hk.2.1)))) hb0⟩
theorem less_step {ok : Nat → Prop} {va vb : Value} {x y : List S31} {ts : Array TypeId} {N : Tmp} (hd : o.dst = some N) (hg : o.guard = none) (ho : o.op = .call { callee := .value (.func 91), args := #[.tmp s, .tmp s2], argTypes := ts }) (h1 : b.eval (.tmp s) = va) (h2 : b.eval (.tmp s2) = vb) (hl : x.length ≤ y.length) (hx : EXs ok W va x) (hy : EXs ok W vb y) (hok : ∀ k, W.heap.size ≤ k → ok k)
  (hK : ∀ v W', EXv ok W' v (lessE x y) → Below W.heap.size W W' → K (b.put o.dst v) W') :
  if Region.wanted o (yielded ops b.tmps) = true then Oper.wp Try.prog o b W K Q else K (b.put o.dst undef) W := by
 refine goes_ Try.func91 (by kernel_rfl) rfl #[va, vb] (by unfold Region.wanted; rw [hg]) rfl ho (by simp only [List.map_toArray, List.map_cons, List.map_nil, h1, h2]) ?_
 refine (less_any ok va vb x y hl W hx hy hok).mono ?_
 rintro e w' ⟨u, rfl, hu, hb⟩
 exact ⟨_, rfl, hK _ _ hu hb⟩
end
theorem EXs.bound {ok : Nat → Prop} {W : World} {v : Value} {xs : List S31} (h : EXs ok W v xs) : EXs (fun k => ok k ∧ k < W.heap.size) W v xs := by
 obtain ⟨A, c, e, hl, hF⟩ := h
 exact ⟨A, c, e, hl, Kd.F_bound hF⟩
theorem EXv.bound {ok : Nat → Prop} {W : World} {v : Value} {x : S31} (h : EXv ok W v x) : EXv (fun k => ok k ∧ k < W.heap.size) W v x := by
 obtain ⟨A, c, e, hl, hF⟩ := h
 exact ⟨A, c, e, hl, Kd.F_bound hF⟩
theorem Bx.made {w W W' : World} {S : Nat → Prop} {v : Value} {g : Nat} {A : Option Addr} {c : Nat} {x : S31} (hk : W'.heap[g]? = some (.cells #[.int .i64 x.f0, .int .i64 x.f1, .slice A x.f2.length c] 31 (0, 0))) (hv : EXv (FP w S v) W (.agg #[.int .i64 x.f0, .int .i64 x.f1, .slice A x.f2.length c]) x) (hs : S g) (hw : Wr g W W') : Bx w S W' v g A c x :=
 ⟨hk, EXv.kept hv hw.kept (fun k hk e => hk.1.2 (by rw [e]; exact hs))⟩
def wt105_12 : Bool × List (List Nat × List Nat) := (true, [([], []), ([0], [0]), ([1], [1]), ([2], [2]), ([], []), ([3, 4], [3, 4]), ([], []), ([6], [6]), ([7], [7]), ([8], [8]), ([], []), ([9, 10, 5], [9, 10]), ([5, 11, 0, 1, 2, 3, 4, 5], [5]), ([11, 12, 0, 1, 2, 3, 4, 5, 6, 7, 8, 9, 10, 11, 12], [11])])
theorem wt105_12_tab : rtab .any (opsOf Try.f105 12) = wt105_12 := by kernel_rfl
def wt105_17 : Bool × List (List Nat × List Nat) := (true, [([], []), ([], []), ([0, 1], [0, 1]), ([2], [2]), ([], []), ([], []), ([4, 5], [4, 5]), ([6], [6]), ([], []), ([], []), ([8, 3, 0, 1, 2, 3, 8, 9], [3, 8]), ([9, 7, 10, 0, 1, 2, 3, 4, 5, 6, 7, 8, 9, 10], [7, 9])])
theorem wt105_17_tab : rtab .any (opsOf Try.f105 17) = wt105_17 := by kernel_rfl
def wt105_21 : Bool × List (List Nat × List Nat) := (true, [([], []), ([], []), ([], []), ([1, 2], [1, 2]), ([3], [3]), ([], []), ([4, 5], [4, 5]), ([6, 4], [6]), ([7], [7]), ([0, 8, 7], [0, 8]), ([9, 9, 0, 1, 2, 3, 4, 5, 6, 7, 8, 9], [0, 9])])
theorem wt105_21_tab : rtab .any (opsOf Try.f105 21) = wt105_21 := by kernel_rfl
def wt105_22 : Bool × List (List Nat × List Nat) := (true, [([], []), ([], []), ([0, 1], [0, 1]), ([2], [2]), ([], []), ([], []), ([], []), ([5, 6], [5, 6]), ([7, 3], [7]), ([4, 8], [4, 8]), ([9, 8], [9]), ([3, 10], [3, 10]), ([11, 10], [11]), ([12, 12, 0, 1, 2, 3, 4, 5, 6, 7, 8, 9, 10, 11, 12], [12])])
theorem wt105_22_tab : rtab .any (opsOf Try.f105 22) = wt105_22 := by kernel_rfl
set_option maxHeartbeats 8000000 in
set_option maxRecDepth 100000 in
theorem wbits_any (n : Nat) (hn : n ≤ 6) : ∀ (f : Nat) (kind num : Int) (A : Option Addr) (c : Nat) (kids : List S81) (r : List S31) (w : World), Kd.C k81 w A kids.length kids → kids.length ≤ c → wbitsF n f kind num kids = some r →
  Calls Try.prog 105 #[.agg #[.int .i64 kind, .int .i64 num, .slice A kids.length c], .int .i64 n] w fun e w' => ∃ v, e = .returned v ∧ EXs (fun k => w.heap.size ≤ k) w' v r ∧ Below w.heap.size w w' := by
 intro f
 induction f with
 | zero => intro kind num A c kids r w _ _ h; simp [wbitsF] at h
 | succ f ih =>
  intro kind num A c kids r w hC hc h
  have hu31 := Try.underlying31
  have hu81 := Try.underlying81
  have hu29 := Try.underlying29
  have HC := Aside0.mk hC
  have IH := Aside0.mk ih
  have hmaxk : kids.length ≤ 9223372036854775807 := Kd.C_max hC
  clear hC ih
  rw [wbitsF] at h
  obtain ⟨g, hg⟩ : ∃ g, w.heap.size = g := ⟨_, rfl⟩
  go_enter Try.func105, Try.ntmps105
  go_upto_region 1 with fail
  have hb2 : Below w.heap.size w (w.alloc (.cells #[.int .i64 kind, .int .i64 num, .slice A kids.length c] 81)) := below_alloc (Below.refl _ _) _
  have k1 : (w.alloc (.cells #[.int .i64 kind, .int .i64 num, .slice A kids.length c] 81)).heap[g]? = some (.cells #[.int .i64 kind, .int .i64 num, .slice A kids.length c] 81 (0, 0)) := by rw [← hg]; exact blk_new w _
  generalize w.alloc (.cells #[.int .i64 kind, .int .i64 num, .slice A kids.length c] 81) = wq at hb2 k1 ⊢
  have y0 := (blk_cell k1 0).trans (show _ = some (.int .i64 kind) from rfl)
  have y1 := (blk_cell k1 1).trans (show _ = some (.int .i64 num) from rfl)
  have HGE := Aside0.mk (Nat.le_of_eq hg)
  have hgq : g < wq.heap.size := blk_lt k1
  have HG := Aside0.mk k1
  have HB := Aside0.mk hb2
  clear hg hb2 k1
  by_cases h1 : kind = 1
  ·rw [if_pos h1] at h
   have t1 : (kind == 1) = true := beq_iff_eq.mpr h1
   clear h1
   cases h
   go_wp2_with (go_at_call 131; refine (impl_constBits.calls 31 num n _ _ (constB_is num n hn)).mono ?_; rintro e w3 ⟨v, rfl, hR, hb⟩; have HR := Aside0.mk (EXs.of (b := 0) (Kd.R_V (Kd.R_mono (ok' := fun k => w.heap.size ≤ k) (Kd.R_bound hR) (fun k_ hk_ => Nat.le_trans HB.out.size hk_.2.1)))); have HB3 := Aside0.mk (HB.out.trans (hb.mono HB.out.size)); clear hR hb y0 y1)
   go_ret
   exact ⟨_, rfl, HR.out, HB3.out⟩
  rw [if_neg h1] at h
  have t1 : (kind == 1) = false := beq_eq_false_iff_ne.mpr h1
  clear h1
  by_cases h2 : kind = 2
  ·rw [if_pos h2] at h
   have t2 : (kind == 2) = true := beq_iff_eq.mpr h2
   clear h2
   by_cases hnum : 0 ≤ num ∧ num ≤ 100
   rotate_left
   ·rw [if_neg hnum] at h; cases h
   rw [if_pos hnum] at h
   cases h
   go_wp2
   go_loopg [5, 25] n (fun gg v5 v25 wr => ∃ (i : Nat), v25 = .int .i64 i ∧ i ≤ n ∧ n - i ≤ gg ∧ Aside0 (Kd.R k31 31 wr w.heap.size (fun _ => True) v5 (varB num n i)) ∧ Aside0 (Below w.heap.size w wr) ∧ Aside0 (wr.heap[g]? = some (.cells #[.int .i64 kind, .int .i64 num, .slice A kids.length c] 81 (0, 0))))
   case atStart => exact ⟨0, rfl, Nat.zero_le _, by omega, ⟨Kd.R_nil _ _ _ _ _⟩, HB, HG⟩
   case round =>
    clear HB HG y0 y1
    obtain ⟨i, rfl, hi, hgk, HL, HB, HG⟩ := hrel
    by_cases hlt : i < n
    ·have hltz : (i : Int) < (n : Int) := by omega
     have y1 := (blk_cell HG.out 1).trans (show _ = some (.int .i64 num) from rfl)
     obtain ⟨e1, e2⟩ := mulb num n i hnum.1 hnum.2 hn (by omega)
     have ew : IntKind.i64.wrap ((i : Int) + 1) = ((i + 1 : Nat) : Int) := IntWalk.i64_in _ (by omega)
     go_wp2_with (first
      | ((with_reducible refine gate_builtin (b := .append) (xs := #[.tmp 28, .tmp 36]) rfl ?_); at_builtin; refine Kd.R_append k31 (w0 := w) w.heap.size rfl (.tmp 28) (.tmp 36) 29 31 (.agg #[.int .i64 0, .int .i64 0, .slice none 0 0]) 40 rfl Try.underlying29 inf31 rfl (by decide) (by decide) u5 (varB num n i) (⟨1, num * n + i, []⟩ : S31) [.int .i64 1, .int .i64 (num * n + i), .slice none 0 0] (fun _ => True) (fun _ => False) rfl rfl ?aP (fun _ hk => hk.elim) ?aF ?aO ?aB ?aS ?aL ?_; (case aP => exact k31_mkM _ _ _ (⟨1, num * n + i, []⟩ : S31) (Kd.R_nil _ _ _ _ _)); (case aF => exact fun _ _ => trivial); (case aO => exact HL.out); (case aB => exact HB.out); (case aS => exact HB.out.size); (case aL => rw [show (varB num n i).length = i by simp [varB]]; omega); intro v7 w7 ho hb hg2 hat; have HL7 := Aside0.mk (show Kd.R k31 31 w7 w.heap.size (fun _ => True) v7 (varB num n (i + 1)) by rw [show varB num n (i + 1) = varB num n i ++ [⟨1, num * n + i, []⟩] by simp [varB, List.range_succ]]; exact ho); have HB7 := Aside0.mk hb; have HG7 := Aside0.mk (blk_grown HG.out hg2 (Kd.R_ne HL.out HG.out (by decide))); clear ho hb hg2 hat HL HB HG y1))
     go_roundg (gk - 1)
     case measure => omega
     case rel => exact ⟨i + 1, rfl, by omega, by omega, HL7, HB7, HG7⟩
    ·obtain rfl : i = n := by omega
     go_wp2
     go_ret
     exact ⟨_, rfl, EXs.of (b := 0) (Kd.R_V (Kd.R_mono (ok' := fun k => w.heap.size ≤ k) (Kd.R_bound HL.out) (fun k_ hk_ => hk_.2.1))), HB.out⟩
  rw [if_neg h2] at h
  have t2 : (kind == 2) = false := beq_eq_false_iff_ne.mpr h2
  clear h2
  rcases Classical.em (¬ (3 ≤ kind ∧ kind ≤ 5)) with h35 | h35
  ·rw [if_neg h35] at h; cases h
  replace h35 := Classical.not_not.1 h35
  rw [if_pos h35] at h
  obtain ⟨x, y, rfl⟩ : ∃ x y, kids = [x, y] := by
   match kids, h with
   | [x, y], _ => exact ⟨x, y, rfl⟩
  rw [twoKids] at h
  obtain ⟨a, hwa, h⟩ := Option.bind_eq_some_iff.1 h
  obtain ⟨b, hwb, h⟩ := Option.bind_eq_some_iff.1 h
  rcases Classical.em (¬ (a.length = n ∧ b.length = n)) with hab | hab
  ·rw [if_neg hab] at h; cases h
  replace hab := Classical.not_not.1 hab
  rw [if_pos hab] at h
  have HH := Aside0.mk (Option.some.inj h)
  have HAB := Aside0.mk hab
  have H35 := Aside0.mk h35
  clear h hab h35
  obtain ⟨ad, Ax, cx, ea, hx0, hx1, hx2, hlx, hCx⟩ := at_T81 HC.out 0 (by decide) (show (0 : Int) < 2 by decide)
  obtain ⟨ad', Ay, cy, ea', hy0, hy1, hy2, hly, hCy⟩ := at_T81 HC.out 1 (by decide) (show (1 : Int) < 2 by decide)
  subst ea
  cases ea'
  rw [show rd_T81 [x, y] 0 = x from rfl] at hx0 hx1 hx2 hlx hCx
  rw [show rd_T81 [x, y] 1 = y from rfl] at hy0 hy1 hy2 hly hCy
  go_upto_region 12 with fail
  clear y0 y1
  have cm : ∀ (W : World) {p : Addr} {v : Value}, Below wq.drew.heap.size wq.drew W → w.cell? p = some v → W.cell? p = some v := fun W p v hW hx => by
   have h1 := (HB.out.cell (World.block_lt_of_cell? _ _ hx)).trans hx
   exact (hW.cell (World.block_lt_of_cell? wq _ h1)).trans h1
  have cx0 := fun (W : World) (hW : Below wq.drew.heap.size wq.drew W) => cm W hW hx0
  have cx1 := fun (W : World) (hW : Below wq.drew.heap.size wq.drew W) => cm W hW hx1
  have cx2 := fun (W : World) (hW : Below wq.drew.heap.size wq.drew W) => cm W hW hx2
  have cy0 := fun (W : World) (hW : Below wq.drew.heap.size wq.drew W) => cm W hW hy0
  have cy1 := fun (W : World) (hW : Below wq.drew.heap.size wq.drew W) => cm W hW hy1
  have cy2 := fun (W : World) (hW : Below wq.drew.heap.size wq.drew W) => cm W hW hy2
  have cw := fun (W : World) (hW : Below wq.drew.heap.size wq.drew W) => (show W.cell? ⟨g, 2, none⟩ = some (.slice (some ad) 2 c) from by
   have h1 := (blk_cell HG.out 2).trans (show _ = some (.slice (some ad) 2 c) from rfl)
   exact (hW.cell (World.block_lt_of_cell? wq _ h1)).trans h1)
  obtain ⟨okr, hokre⟩ : ∃ okr : Nat → Prop, okr = fun k => wq.heap.size ≤ k := ⟨_, rfl⟩
  have hokr : ∀ k, wq.drew.heap.size ≤ k → okr k := fun k hk => by rw [hokre]; exact hk
  have wqb : ∀ (W : World), Below wq.drew.heap.size wq.drew W → Below w.heap.size w W := fun W hW => HB.out.trans (((below_drew1 (Below.refl wq.heap.size wq)).trans hW).mono HB.out.size)
  have ihx := fun (W : World) (hW : Below wq.drew.heap.size wq.drew W) => IH.out x.f0 x.f1 Ax cx x.f2 a W (Kd.C_below hCx (wqb W hW)) hlx hwa
  have ihy := fun (W : World) (hW : Below wq.drew.heap.size wq.drew W) => IH.out y.f0 y.f1 Ay cy y.f2 b W (Kd.C_below hCy (wqb W hW)) hly hwb
  clear hx0 hx1 hx2 hy0 hy1 hy2 cm hlx hCx hly hCy
  refine any_x [some 40, some 41, some 42, some 43, some 44, some 45, some 46, some 47, some 48, some 49, some 50, some 51, some 7, some 8] [some 40, some 41, some 42, some 43, some 44, some 45, some 46, some 47, some 48, some 49, some 50, some 51, some 7, some 8] [] 114 12 [0, 1, 3, 7, 0, 31, 0, 64, 192, 448, 0, 2047, 4095, 8191] [VP.eq (.pointer (some ⟨g, 2, none⟩)), VP.eq (.slice (some ad) 2 c), VP.eq (.pointer (some (ad.add (0 * 3)))), VP.eq (.agg #[.int .i64 x.f0, .int .i64 x.f1, .slice Ax x.f2.length cx]), VP.eq (.int .i64 (n : Int)), VP.exs okr a, VP.eq (.pointer (some ⟨g, 2, none⟩)), VP.eq (.slice (some ad) 2 c), VP.eq (.pointer (some (ad.add (1 * 3)))), VP.eq (.agg #[.int .i64 y.f0, .int .i64 y.f1, .slice Ay y.f2.length cy]), VP.eq (.int .i64 (n : Int)), VP.exs okr b] (fun j hj => by cases hj) rfl wt105_12_tab rfl rfl (by kernel_rfl) rfl ⟨?_, ?_, ?_, ?_, ?_, ?_, ?_, ?_, ?_, ?_, ?_, ?_, trivial⟩ ?_
  ·intro bq W B hW hB hb hd K hK hK2 hK3; exact fa_step rfl rfl (hb 2) rfl (hK _ _ rfl (Below.refl _ _))
  ·intro bq W B hW hB hb hd K hK hK2 hK3; exact ld79_step rfl rfl (hd 0 40) (cw W hW) (hK _ _ rfl (Below.refl _ _))
  ·intro bq W B hW hB hb hd K hK hK2 hK3; exact ix79_step (i := 0) rfl rfl (hd 1 41) (by decide) (by decide) (hK _ _ rfl (Below.refl _ _))
  ·intro bq W B hW hB hb hd K hK hK2 hK3; exact ld81_step rfl rfl (hd 2 42) (cx0 W hW) (cx1 W hW) (cx2 W hW) (hK _ _ rfl (Below.refl _ _))
  ·intro bq W B hW hB hb hd K hK hK2 hK3; exact mv_step rfl rfl (hb 1) (hK _ _ rfl (Below.refl _ _))
  ·intro bq W B hW hB hb hd K hK hK2 hK3; exact rec_step Try.func105 (by kernel_rfl) rfl rfl rfl rfl (hd 3 43) (hd 4 44) (ihx W hW) (fresh_ hokr hW hB) (fun v W' hv hb => hK v W' hv hb)
  ·intro bq W B hW hB hb hd K hK hK2 hK3; exact fa_step rfl rfl (hb 2) rfl (hK _ _ rfl (Below.refl _ _))
  ·intro bq W B hW hB hb hd K hK hK2 hK3; exact ld79_step rfl rfl (hd 6 46) (cw W hW) (hK _ _ rfl (Below.refl _ _))
  ·intro bq W B hW hB hb hd K hK hK2 hK3; exact ix79_step (i := 1) rfl rfl (hd 7 47) (by decide) (by decide) (hK _ _ rfl (Below.refl _ _))
  ·intro bq W B hW hB hb hd K hK hK2 hK3; exact ld81_step rfl rfl (hd 8 48) (cy0 W hW) (cy1 W hW) (cy2 W hW) (hK _ _ rfl (Below.refl _ _))
  ·intro bq W B hW hB hb hd K hK hK2 hK3; exact mv_step rfl rfl (hb 1) (hK _ _ rfl (Below.refl _ _))
  ·intro bq W B hW hB hb hd K hK hK2 hK3; exact rec_step Try.func105 (by kernel_rfl) rfl rfl rfl rfl (hd 9 49) (hd 10 50) (ihy W hW) (fresh_ hokr hW hB) (fun v W' hv hb => hK v W' hv hb)
  ·intro vals F W B hF hW hBB hV hS
   have ha : EXs (fun k => okr k ∧ ¬ B k) W (vals 45) a := hV 5 45 (of_decide_eq_true (by kernel_rfl)) rfl
   have hb : EXs (fun k => okr k ∧ ¬ B k) W (vals 51) b := hV 11 51 (of_decide_eq_true (by kernel_rfl)) rfl
   have HA := Aside0.mk (EXs.mono ha (fun k hk => hk.1))
   have HBb := Aside0.mk (EXs.mono hb (fun k hk => hk.1))
   have hbw : Below wq.heap.size wq W := (below_drew1 (Below.refl wq.heap.size wq)).trans hW
   have HQ := Aside0.mk (HB.out.trans (hbw.mono HB.out.size))
   have HGB := Aside0.mk (blk_below HG.out hbw)
   have HSZ := Aside0.mk hbw.size
   rw [hF]
   clear hF hV hBB hW hbw ha hb hS HB HG ihx ihy cw cx0 cx1 cx2 cy0 cy1 cy2
   simp only [List.take, fillA, Act.put, List.setIfInBounds_toArray, List.set_cons_zero, List.set_cons_succ]
   obtain ⟨va, hva⟩ : ∃ u, vals 45 = u := ⟨_, rfl⟩
   obtain ⟨vb, hvb⟩ : ∃ u, vals 51 = u := ⟨_, rfl⟩
   rw [hva] at HA
   rw [hvb] at HBb
   simp only [hva, hvb]
   clear hva hvb
   go_upto_region 13 with fail
   generalize W = wp at HA HBb HQ HGB HSZ ⊢
   refine seq_x [some 52, some 53, some 54, some 55, some 9, some 10, none, none] 114 4 [VP.ex okr (⟨2, 0, []⟩ : S31), VP.eq va, VP.eq vb, VP.ex okr (lessE a b)] rfl rfl (by kernel_rfl) rfl ⟨?_, ?_, ?_, ?_, trivial⟩ ?_
   ·intro bq W B hW hB hb hd K hK hK2 hK3; exact cst_step rfl rfl rfl (fresh_ (w0 := wp) (fun k hk => hokr k (Nat.le_trans HSZ.out hk)) hW hB) (fun v W' hv hb => hK v W' hv hb)
   ·intro bq W B hW hB hb hd K hK hK2 hK3; exact mv_step rfl rfl (hb 7) (hK _ _ rfl (Below.refl _ _))
   ·intro bq W B hW hB hb hd K hK hK2 hK3; exact mv_step rfl rfl (hb 8) (hK _ _ rfl (Below.refl _ _))
   ·intro bq W B hW hB hb hd K hK hK2 hK3; exact less_step rfl rfl rfl (hd 1 53) (hd 2 54) (by have := HAB.out; omega) (EXs.old HA.out hW hB) (EXs.old HBb.out hW hB) (fresh_ (w0 := wp) (fun k hk => hokr k (Nat.le_trans HSZ.out hk)) hW hB) (fun v W' hv hb => hK v W' hv hb)
   ·intro vals F W2 B hF hW hBB hV _
    have h52 : EXv (fun k => okr k ∧ ¬ B k) W2 (vals 52) (⟨2, 0, []⟩ : S31) := hV 0 52 (of_decide_eq_true (by kernel_rfl)) rfl
    have h55 : EXv (fun k => okr k ∧ ¬ B k) W2 (vals 55) (lessE a b) := hV 3 55 (of_decide_eq_true (by kernel_rfl)) rfl
    have H52 := Aside0.mk (EXv.bound h52)
    have H55 := Aside0.mk (EXv.bound h55)
    have HA2 := Aside0.mk (EXs.move (EXs.bound HA.out) hW)
    have HB2 := Aside0.mk (EXs.move (EXs.bound HBb.out) hW)
    have HQ2 := Aside0.mk (HQ.out.trans (hW.mono HQ.out.size))
    have HG2 := Aside0.mk (blk_below HGB.out hW)
    have HS2 := Aside0.mk hW.size
    rw [hF]
    clear hF hV hBB hW h52 h55 HA HBb HQ HGB
    simp only [List.take, fillA, Act.put, List.setIfInBounds_toArray, List.set_cons_zero, List.set_cons_succ]
    refine al_ev rfl rfl (fun Wa hba hbb => ?_)
    simp only [Act.put, List.setIfInBounds_toArray, List.set_cons_zero, List.set_cons_succ]
    refine al_ev rfl rfl (fun Wb hbc hbd => ?_)
    simp only [Act.put, List.setIfInBounds_toArray, List.set_cons_zero, List.set_cons_succ]
    obtain ⟨g9, hg9⟩ : ∃ q, W2.heap.size = q := ⟨_, rfl⟩
    obtain ⟨g10, hg10⟩ : ∃ q, Wa.heap.size = q := ⟨_, rfl⟩
    rw [hg9] at hba
    rw [hg10] at hbc
    simp only [hg9, hg10]
    obtain ⟨S, hS⟩ : ∃ S : Nat → Prop, S = fun k => k = g ∨ k = g9 ∨ k = g10 := ⟨_, rfl⟩
    have l0 : W2.heap.size < Wa.heap.size := by rw [hg9]; exact blk_lt hba
    have l1 : Wa.heap.size < Wb.heap.size := by rw [hg10]; exact blk_lt hbc
    have l2 : g < wq.heap.size := hgq
    have l3 := HSZ.out
    have l4 := HS2.out
    have l5 := HGE.out
    have l6 := HQ2.out.size
    have hSk : ∀ k, S k → k = g ∨ k = g9 ∨ k = g10 := fun k hk => by rw [hS] at hk; exact hk
    have hfp : ∀ k, okr k ∧ k < W2.heap.size → FP w S (.slice none 0 0) k := by
     intro k hk
     have q : wq.heap.size ≤ k := by have q := hk.1; rwa [hokre] at q
     have q2 := hk.2
     refine ⟨⟨by omega, fun hs => ?_⟩, fun e => by cases e⟩
     rcases hSk k hs with e | e | e <;> omega
    have hab : Below W2.heap.size W2 Wb := hbb.trans (hbd.mono hbb.size)
    have h0 : St w S Wb (.slice none 0 0) [] va vb a b := ⟨HQ2.out.trans (hab.mono HQ2.out.size), fun k hk => (by
      rcases hSk k hk with e | e | e <;> constructor <;> omega), Kd.N_nil _ _ _ _ _, EXs.move (EXs.mono HA2.out (fun k hk => hfp k ⟨hk.1, by omega⟩)) hab, EXs.move (EXs.mono HB2.out (fun k hk => hfp k ⟨hk.1, by omega⟩)) hab⟩
    have hs9 : S g9 := by rw [hS]; exact .inr (.inl rfl)
    have hs10 : S g10 := by rw [hS]; exact .inr (.inr rfl)
    have hsg : S g := by rw [hS]; exact .inl rfl
    have hne : g9 ≠ g10 := by omega
    refine sto_ev (g := g9) (ok := FP w S (.slice none 0 0)) (x := (⟨2, 0, []⟩ : S31)) rfl rfl rfl rfl (EXv.move (EXv.mono H52.out (fun k hk => hfp k ⟨hk.1.1, hk.2⟩)) hab) (blk_below hba hbd) (fun Wc A9 c9 k9 v9 hw9 => ?_)
    refine sto_ev (g := g10) (ok := FP w S (.slice none 0 0)) (x := lessE a b) rfl rfl rfl rfl (EXv.kept (EXv.move (EXv.mono H55.out (fun k hk => hfp k ⟨hk.1.1, hk.2⟩)) hab) hw9.kept (fun k hk e => hk.1.2 (by rw [e]; exact hs9))) (blk_kept hbc hw9.kept (Ne.symm hne)) (fun Wd A10 c10 k10 v10 hw10 => ?_)
    have HS := Aside0.mk ((h0.write hs9 hw9).write hs10 hw10)
    have H9 := Aside0.mk (Bx.write (Bx.made k9 v9 hs9 hw9) hs10 hne hw10)
    have H10 := Aside0.mk (Bx.made k10 v10 hs10 hw10)
    have HG := Aside0.mk (blk_kept (blk_kept (blk_below HG2.out hab) hw9.kept (by omega)) hw10.kept (by omega))
    have HSG := Aside0.mk (And.intro hs9 (And.intro hs10 hsg))
    have HNE := Aside0.mk hne
    have HGN := Aside0.mk (show g ≠ g9 by omega)
    clear k9 v9 hw9 k10 v10 hw10 h0 hab hfp hba hbb hbc hbd hg9 hg10 H52 H55 HA2 HB2 HQ2 HG2 HS2 l0 l1 l2 l3 l4 l5 l6 hs9 hs10 hsg hne HSZ hokr hokre okr hgq
    obtain ⟨Aa, ca, eva, la, -⟩ := HS.out.a
    subst eva
    obtain ⟨Ab, cb, evb, lb, -⟩ := HS.out.b
    subst evb
    have hla := HAB.out.1
    have hlb := HAB.out.2
    go_wp2
    go_loopg [5, 57] n (fun gg v5 v57 wr => ∃ (i : Nat) (cr : S31) (out : List S31) (A9 : Option Addr) (c9 : Nat), v57 = .int .i64 i ∧ i ≤ n ∧ n - i ≤ gg ∧ Aside0 (out.length = i) ∧ Aside0 (rnd kind (lessE a b) (a.drop i) (b.drop i) cr out = r) ∧ Aside0 (St w S wr v5 out (.slice Aa a.length ca) (.slice Ab b.length cb) a b) ∧ Aside0 (Bx w S wr v5 g9 A9 c9 cr) ∧ Aside0 (Bx w S wr v5 g10 A10 c10 (lessE a b)) ∧ Aside0 (wr.heap[g]? = some (.cells #[.int .i64 kind, .int .i64 num, .slice (some ad) 2 c] 81 (0, 0))))
    case atStart => exact ⟨0, ⟨2, 0, []⟩, [], A9, c9, rfl, Nat.zero_le _, by omega, ⟨rfl⟩, HH, HS, H9, H10, HG⟩
    case round =>
     clear HS H9 H10 HG HH
     obtain ⟨i, cr, out, A9, c9, rfl, hi, hgk, HLN, HE, HS, H9, H10, HG⟩ := hrel
     by_cases hlt : i < n
     ·have hltz : (i : Int) < (n : Int) := by omega
      have h0z : (0 : Int) ≤ (i : Int) := by omega
      have hia : i < a.length := by omega
      have hib : i < b.length := by omega
      have hma : a.length ≤ 9223372036854775807 := by omega
      have hmb : b.length ≤ 9223372036854775807 := by omega
      have ew : IntKind.i64.wrap ((i : Int) + 1) = ((i + 1 : Nat) : Int) := IntWalk.i64_in _ (by omega)
      have hE := HE.out
      rw [List.drop_eq_getElem_cons hia, List.drop_eq_getElem_cons hib, rnd] at hE
      have HE1 := Aside0.mk hE
      clear hE HE
      obtain ⟨ada, ca_, Ax, cx, exa, xa0, xa1, xa2, xva⟩ := HS.out.a.at i hia
      cases exa
      obtain ⟨adb, cb_, Ay, cy, exb, xb0, xb1, xb2, xvb⟩ := HS.out.b.at i hib
      cases exb
      go_upto_region 17 with fail
      have cm : ∀ (W : World) {p : Addr} {v : Value}, Below wr.drew.heap.size wr.drew W → wr.cell? p = some v → W.cell? p = some v := fun W p v hW hx => (hW.cell (World.block_lt_of_cell? _ _ hx)).trans hx
      have ca0 := fun (W : World) (hW : Below wr.drew.heap.size wr.drew W) => cm W hW xa0
      have ca1 := fun (W : World) (hW : Below wr.drew.heap.size wr.drew W) => cm W hW xa1
      have ca2 := fun (W : World) (hW : Below wr.drew.heap.size wr.drew W) => cm W hW xa2
      have cb0 := fun (W : World) (hW : Below wr.drew.heap.size wr.drew W) => cm W hW xb0
      have cb1 := fun (W : World) (hW : Below wr.drew.heap.size wr.drew W) => cm W hW xb1
      have cb2 := fun (W : World) (hW : Below wr.drew.heap.size wr.drew W) => cm W hW xb2
      obtain ⟨ok2, hok2e⟩ : ∃ q, q = FP w S u5 := ⟨_, rfl⟩
      rw [← hok2e] at xva xvb
      have hok2 : ∀ k, wr.drew.heap.size ≤ k → ok2 k := fun k hk => by rw [hok2e]; exact FP.fresh HS.out k hk
      have eva := EXv.move (W1 := wr.drew) xva (below_drew (Below.refl _ _))
      have evb := EXv.move (W1 := wr.drew) xvb (below_drew (Below.refl _ _))
      clear xa0 xa1 xa2 xb0 xb1 xb2 xva xvb cm
      refine any_x [some 60, some 61, some 62, some 63, some 64, some 65, some 66, some 67, some 12, some 13, none, none] [some 60, some 61, some 62, some 63, some 64, some 65, some 66, some 67, some 12, some 13, some 12, none] [8, 9] 114 11 [0, 0, 3, 7, 0, 0, 48, 112, 0, 0, 783, 2047] [VP.eq (.slice (some ada) a.length ca), VP.eq (.int .i64 (i : Int)), VP.eq (.pointer (some (ada.add (i * 3)))), VP.ex ok2 (a[i]), VP.eq (.slice (some adb) b.length cb), VP.eq (.int .i64 (i : Int)), VP.eq (.pointer (some (adb.add (i * 3)))), VP.ex ok2 (b[i]), VP.bxT wr.drew.heap.size, VP.bxT wr.drew.heap.size, VP.bxE wr.drew.heap.size ok2 (a[i])] (fun j hj B W v hB hp => by
        have hj2 : j = 8 ∨ j = 9 := by simpa using hj
        rcases hj2 with rfl | rfl <;>
        ·obtain ⟨q, _, _, _, e, _, hBq, _⟩ := hp
         rw [e]
         intro h
         cases h
         exact Nat.lt_irrefl _ (hB _ hBq)) rfl wt105_17_tab rfl rfl (by kernel_rfl) rfl ⟨?_, ?_, ?_, ?_, ?_, ?_, ?_, ?_, ?_, ?_, ?_, trivial⟩ ?_
      ·intro bq W B hW hB hb hd K hK hK2 hK3; exact mv_step rfl rfl (hb 7) (hK _ _ rfl (Below.refl _ _))
      ·intro bq W B hW hB hb hd K hK hK2 hK3; exact mv_step rfl rfl (hb 11) (hK _ _ rfl (Below.refl _ _))
      ·intro bq W B hW hB hb hd K hK hK2 hK3; exact ix_step rfl rfl (hd 0 60) (hd 1 61) hia hma (hK _ _ rfl (Below.refl _ _))
      ·intro bq W B hW hB hb hd K hK hK2 hK3; exact ld_step rfl rfl (hd 2 62) (ca0 W hW) (ca1 W hW) (ca2 W hW) (hK _ _ (EXv.old eva hW hB) (Below.refl _ _))
      ·intro bq W B hW hB hb hd K hK hK2 hK3; exact mv_step rfl rfl (hb 8) (hK _ _ rfl (Below.refl _ _))
      ·intro bq W B hW hB hb hd K hK hK2 hK3; exact mv_step rfl rfl (hb 11) (hK _ _ rfl (Below.refl _ _))
      ·intro bq W B hW hB hb hd K hK hK2 hK3; exact ix_step rfl rfl (hd 4 64) (hd 5 65) hib hmb (hK _ _ rfl (Below.refl _ _))
      ·intro bq W B hW hB hb hd K hK hK2 hK3; exact ld_step rfl rfl (hd 6 66) (cb0 W hW) (cb1 W hW) (cb2 W hW) (hK _ _ (EXv.old evb hW hB) (Below.refl _ _))
      ·intro bq W B hW hB hb hd K hK hK2 hK3; exact al_x rfl rfl (fun W' h hb hl => hK2 _ W' ⟨W.heap.size, _, _, _, rfl, hW.size, .inr rfl, h⟩ hb hl rfl)
      ·intro bq W B hW hB hb hd K hK hK2 hK3; exact al_x rfl rfl (fun W' h hb hl => hK2 _ W' ⟨W.heap.size, _, _, _, rfl, hW.size, .inr rfl, h⟩ hb hl rfl)
      ·intro bq W B hW hB hb hd K hK hK2 hK3; 
       obtain ⟨g, u0, u1, u2, e, hn, hBg, hg⟩ := hd 8 12
       refine st_x (ok := fun k => ok2 k ∧ ¬ B k) (x := a[i]) rfl rfl rfl e (hd 3 63) hg (fun W' A c h1 h2 h3 => hK3 W' (fun t ht => ?_) (h3.from hW hn) (fun j t hj hne _ hjt hp => ?_))
       ·cases ht
        exact ⟨g, A, c, e, hn, hBg, h1, EXv.kept h2 h3.kept (fun k hk hs => hk.2 (by rw [hs]; exact hBg))⟩
       ·have hall : AllWr [VP.eq (.slice (some ada) a.length ca), VP.eq (.int .i64 (i : Int)), VP.eq (.pointer (some (ada.add (i * 3)))), VP.ex ok2 (a[i]), VP.eq (.slice (some adb) b.length cb), VP.eq (.int .i64 (i : Int)), VP.eq (.pointer (some (adb.add (i * 3)))), VP.ex ok2 (b[i]), VP.bxT wr.drew.heap.size, VP.bxT wr.drew.heap.size] := ⟨VP.wr_eq _, VP.wr_eq _, VP.wr_eq _, VP.wr_ex _ _, VP.wr_eq _, VP.wr_eq _, VP.wr_eq _, VP.wr_ex _ _, VP.wr_bxT _, VP.wr_bxT _, trivial⟩
        have hj10 : j = 0 ∨ j = 1 ∨ j = 2 ∨ j = 3 ∨ j = 4 ∨ j = 5 ∨ j = 6 ∨ j = 7 ∨ j = 8 ∨ j = 9 := by omega
        have hq := AllWr.get _ hall j
        rcases hj10 with rfl | rfl | rfl | rfl | rfl | rfl | rfl | rfl | rfl | rfl <;> exact hq B W W' g _ _ _ _ hBg h1 h3 hp
      ·intro vals F W B hF hW hBB hV hSp
       obtain ⟨g12, A12, c12, e12, hn12, hB12, hk12, hv12⟩ := hV 10 12 (of_decide_eq_true (by kernel_rfl)) rfl
       obtain ⟨g13, u0, u1, u2, e13, hn13, hB13, hk13⟩ := hV 9 13 (of_decide_eq_true (by kernel_rfl)) rfl
       have hy : EXv (fun k => ok2 k ∧ ¬ B k) W (vals 67) b[i] := hV 7 67 (of_decide_eq_true (by kernel_rfl)) rfl
       have hne : g12 ≠ g13 := fun e => hSp 8 9 12 13 (by decide) (by decide) (by decide) rfl rfl rfl rfl (by rw [e12, e13, e])
       rw [hF]
       simp only [List.take, fillA, Act.put, List.setIfInBounds_toArray, List.set_cons_zero, List.set_cons_succ, e12, e13]
       clear hF hV hBB hSp e12 e13
       refine sto_ev (g := g13) (ok := fun k => ok2 k ∧ ¬ B k) (x := b[i]) rfl rfl rfl rfl hy hk13 (fun W' A13 c13 hk13' hv13 hw13 => ?_)
       have hbw : Below wr.heap.size wr W' := ((below_drew1 (Below.refl wr.heap.size wr)).trans hW).trans (show Below wr.heap.size W W' from Wr.from (w0 := wr.drew) hw13 hW hn13)
       have H12 : Aside0 (Bx w S W' u5 g12 A12 c12 a[i]) := ⟨⟨blk_kept hk12 hw13.kept hne, EXv.mono (EXv.kept hv12 hw13.kept (fun k hk e => hk.2 (by rw [e]; exact hB13))) (fun k hk => by rw [← hok2e]; exact hk.1)⟩⟩
       have H13 : Aside0 (Bx w S W' u5 g13 A13 c13 b[i]) := ⟨⟨hk13', EXv.mono (EXv.kept hv13 hw13.kept (fun k hk e => hk.2 (by rw [e]; exact hB13))) (fun k hk => by rw [← hok2e]; exact hk.1)⟩⟩
       have HF12 := Aside0.mk (FP.fresh HS.out g12 hn12)
       have HF13 := Aside0.mk (FP.fresh HS.out g13 hn13)
       have q0_ := Aside0.mk (HS.out.below hbw)
       have q1_ := Aside0.mk (H9.out.below hbw)
       have q2_ := Aside0.mk (H10.out.below hbw)
       have q3_ := Aside0.mk (blk_below HG.out hbw)
       clear HS H9 H10 HG hk12 hk13 hk13' hv12 hv13 hw13 hy hW hbw hok2 eva evb ca0 ca1 ca2 cb0 cb1 cb2 hok2e hne hn12 hn13 hB12 hB13
       have HS := q0_
       have H9 := q1_
       have H10 := q2_
       have HG := q3_
       clear q0_ q1_ q2_ q3_
       generalize W' = wr at HS H9 H10 HG H12 H13 ⊢
       go_upto_region 18 with fail
       have y0 := (blk_cell HG.out 0).trans (show _ = some (.int .i64 kind) from rfl)
       by_cases h3 : kind = 3
       ·have hE := HE1.out
        rw [if_pos h3] at hE
        have HE2 := Aside0.mk hE
        have t3 : (kind == 3) = true := beq_iff_eq.mpr h3
        clear hE HE1 h3
        go_upto_region 21 with fail
        clear y0
        obtain ⟨ok2, hok2e⟩ : ∃ q, q = FP w S u5 := ⟨_, rfl⟩
        have hok2 : ∀ k, wr.drew.heap.size ≤ k → ok2 k := fun k hk => by rw [hok2e]; exact FP.fresh HS.out k hk
        have cm : ∀ (W : World) {p : Addr} {v : Value}, Below wr.drew.heap.size wr.drew W → wr.cell? p = some v → W.cell? p = some v := fun W p v hW hx => (hW.cell (World.block_lt_of_cell? _ _ hx)).trans hx
        have c120 := fun (W : World) (hW : Below wr.drew.heap.size wr.drew W) => cm W hW ((blk_cell H12.out.blk 0).trans (show _ = some (.int .i64 (a[i]).f0) from rfl))
        have c121 := fun (W : World) (hW : Below wr.drew.heap.size wr.drew W) => cm W hW ((blk_cell H12.out.blk 1).trans (show _ = some (.int .i64 (a[i]).f1) from rfl))
        have c122 := fun (W : World) (hW : Below wr.drew.heap.size wr.drew W) => cm W hW ((blk_cell H12.out.blk 2).trans (show _ = some (.slice A12 (a[i]).f2.length c12) from rfl))
        have ec12 := EXv.move (W1 := wr.drew) H12.out.val (below_drew (Below.refl _ _))
        have c130 := fun (W : World) (hW : Below wr.drew.heap.size wr.drew W) => cm W hW ((blk_cell H13.out.blk 0).trans (show _ = some (.int .i64 (b[i]).f0) from rfl))
        have c131 := fun (W : World) (hW : Below wr.drew.heap.size wr.drew W) => cm W hW ((blk_cell H13.out.blk 1).trans (show _ = some (.int .i64 (b[i]).f1) from rfl))
        have c132 := fun (W : World) (hW : Below wr.drew.heap.size wr.drew W) => cm W hW ((blk_cell H13.out.blk 2).trans (show _ = some (.slice A13 (b[i]).f2.length c13) from rfl))
        have ec13 := EXv.move (W1 := wr.drew) H13.out.val (below_drew (Below.refl _ _))
        have c9_0 := fun (W : World) (hW : Below wr.drew.heap.size wr.drew W) => cm W hW ((blk_cell H9.out.blk 0).trans (show _ = some (.int .i64 (cr).f0) from rfl))
        have c9_1 := fun (W : World) (hW : Below wr.drew.heap.size wr.drew W) => cm W hW ((blk_cell H9.out.blk 1).trans (show _ = some (.int .i64 (cr).f1) from rfl))
        have c9_2 := fun (W : World) (hW : Below wr.drew.heap.size wr.drew W) => cm W hW ((blk_cell H9.out.blk 2).trans (show _ = some (.slice A9 (cr).f2.length c9) from rfl))
        have ec9_ := EXv.move (W1 := wr.drew) H9.out.val (below_drew (Below.refl _ _))
        rw [← hok2e] at ec12
        rw [← hok2e] at ec13
        rw [← hok2e] at ec9_
        refine any_x [some 80, some 81, some 82, some 83, some 84, some 85, some 86, some 87, some 88, some 89, some 5] [some 80, some 81, some 82, some 83, some 84, some 85, some 86, some 87, some 88, some 89, some 5] [] 114 9 [0, 0, 0, 6, 14, 0, 62, 126, 254, 511, 1023] [VP.eq u5, VP.ex ok2 (a[i]), VP.ex ok2 (b[i]), VP.exs ok2 ([a[i], b[i]]), VP.ex ok2 ((⟨6, 0, [a[i], b[i]]⟩ : S31)), VP.ex ok2 (cr), VP.exs ok2 ([(⟨6, 0, [a[i], b[i]]⟩ : S31), cr]), VP.ex ok2 ((⟨6, 0, [⟨6, 0, [a[i], b[i]]⟩, cr]⟩ : S31)), VP.exs ok2 ([(⟨6, 0, [⟨6, 0, [a[i], b[i]]⟩, cr]⟩ : S31)])] (fun j hj => by cases hj) rfl wt105_21_tab rfl rfl (by kernel_rfl) rfl ⟨?_, ?_, ?_, ?_, ?_, ?_, ?_, ?_, ?_, trivial⟩ ?_
        ·intro bq W B hW hB hb hd K hK hK2 hK3; exact mv_step rfl rfl (hb 5) (hK _ _ rfl (Below.refl _ _))
        ·intro bq W B hW hB hb hd K hK hK2 hK3; exact ld_step rfl rfl (hb 12) (c120 W hW) (c121 W hW) (c122 W hW) (hK _ _ (EXv.old ec12 hW hB) (Below.refl _ _))
        ·intro bq W B hW hB hb hd K hK hK2 hK3; exact ld_step rfl rfl (hb 13) (c130 W hW) (c131 W hW) (c132 W hW) (hK _ _ (EXv.old ec13 hW hB) (Below.refl _ _))
        ·intro bq W B hW hB hb hd K hK hK2 hK3; exact bs2_step rfl rfl rfl (hd 1 81) (hd 2 82) (fresh_ hok2 hW hB _ (Nat.le_refl _)) (fun v W' hv hb => hK v W' hv hb)
        ·intro bq W B hW hB hb hd K hK hK2 hK3; exact ex_step rfl rfl rfl (hd 3 83) (fresh_ hok2 hW hB) (fun v W' hv hb => hK v W' hv hb)
        ·intro bq W B hW hB hb hd K hK hK2 hK3; exact ld_step rfl rfl (hb 9) (c9_0 W hW) (c9_1 W hW) (c9_2 W hW) (hK _ _ (EXv.old ec9_ hW hB) (Below.refl _ _))
        ·intro bq W B hW hB hb hd K hK hK2 hK3; exact bs2_step rfl rfl rfl (hd 4 84) (hd 5 85) (fresh_ hok2 hW hB _ (Nat.le_refl _)) (fun v W' hv hb => hK v W' hv hb)
        ·intro bq W B hW hB hb hd K hK hK2 hK3; exact ex_step rfl rfl rfl (hd 6 86) (fresh_ hok2 hW hB) (fun v W' hv hb => hK v W' hv hb)
        ·intro bq W B hW hB hb hd K hK hK2 hK3; exact bs1_step rfl rfl rfl (hd 7 87) (fresh_ hok2 hW hB _ (Nat.le_refl _)) (fun v W' hv hb => hK v W' hv hb)
        ·intro vals F W B hF hW hBB hV _
         have hL : vals 80 = u5 := hV 0 80 (of_decide_eq_true (by kernel_rfl)) rfl
         have hX : EXs (fun k => ok2 k ∧ ¬ B k) W (vals 88) [(⟨6, 0, [⟨6, 0, [a[i], b[i]]⟩, cr]⟩ : S31)] := hV 8 88 (of_decide_eq_true (by kernel_rfl)) rfl
         have hbw : Below wr.heap.size wr W := ((below_drew1 (Below.refl wr.heap.size wr)).trans hW)
         have HX := Aside0.mk (EXs.mono (ok' := FP w S u5) hX (fun k hk => by rw [← hok2e]; exact hk.1))
         have q0_ := Aside0.mk (HS.out.below hbw)
         have q1_ := Aside0.mk (H9.out.below hbw)
         have q2_ := Aside0.mk (H10.out.below hbw)
         have q3_ := Aside0.mk (blk_below HG.out hbw)
         have q4_ := Aside0.mk (H12.out.below hbw)
         have q5_ := Aside0.mk (H13.out.below hbw)
         have q6_ := Aside0.mk (And.intro (Nat.lt_of_lt_of_le (blk_lt H12.out.blk) hbw.size) (Nat.lt_of_lt_of_le (blk_lt H13.out.blk) hbw.size))
         rw [hF]
         clear hF hV hBB hW hbw hX hok2 cm c120 c121 c122 ec12 c130 c131 c132 ec13 c9_0 c9_1 c9_2 ec9_ HS H9 H10 HG H12 H13
         simp only [hok2e] at *
         clear hok2e
         simp only [List.take, fillA, Act.put, List.setIfInBounds_toArray, List.set_cons_zero, List.set_cons_succ, hL]
         clear hL
         refine app_ev (w := w) (S := S) (out := out) rfl rfl rfl HX.out q0_.out (by have := HLN.out; have := hn; omega) (fun u6 w6 h6 hg6 hat6 => ?_)
         have HS := Aside0.mk h6
         have H9 := Aside0.mk (q1_.out.after (q0_.out.away HSG.out.1) hg6 hat6)
         have H10 := Aside0.mk (q2_.out.after (q0_.out.away HSG.out.2.1) hg6 hat6)
         have HG := Aside0.mk (blk_grown q3_.out hg6 (Kd.N_ne q0_.out.row q3_.out (by decide)))
         have H12 := Aside0.mk (q4_.out.after HF12.out.2 hg6 hat6)
         have H13 := Aside0.mk (q5_.out.after HF13.out.2 hg6 hat6)
         clear h6 hg6 hat6 q0_ q1_ q2_ q3_ q4_ q5_ q6_ HX HF12 HF13
         simp only [Act.put, List.setIfInBounds_toArray, List.set_cons_zero, List.set_cons_succ]
         generalize w6 = wr at HS H9 H10 HG H12 H13 ⊢
         generalize u6 = u5 at HS H9 H10 H12 H13 ⊢
         go_upto_region 22 with fail
         obtain ⟨ok2, hok2e⟩ : ∃ q, q = FP w S u5 := ⟨_, rfl⟩
         have hok2 : ∀ k, wr.drew.heap.size ≤ k → ok2 k := fun k hk => by rw [hok2e]; exact FP.fresh HS.out k hk
         have cm : ∀ (W : World) {p : Addr} {v : Value}, Below wr.drew.heap.size wr.drew W → wr.cell? p = some v → W.cell? p = some v := fun W p v hW hx => (hW.cell (World.block_lt_of_cell? _ _ hx)).trans hx
         have c120 := fun (W : World) (hW : Below wr.drew.heap.size wr.drew W) => cm W hW ((blk_cell H12.out.blk 0).trans (show _ = some (.int .i64 (a[i]).f0) from rfl))
         have c121 := fun (W : World) (hW : Below wr.drew.heap.size wr.drew W) => cm W hW ((blk_cell H12.out.blk 1).trans (show _ = some (.int .i64 (a[i]).f1) from rfl))
         have c122 := fun (W : World) (hW : Below wr.drew.heap.size wr.drew W) => cm W hW ((blk_cell H12.out.blk 2).trans (show _ = some (.slice A12 (a[i]).f2.length c12) from rfl))
         have ec12 := EXv.move (W1 := wr.drew) H12.out.val (below_drew (Below.refl _ _))
         have c130 := fun (W : World) (hW : Below wr.drew.heap.size wr.drew W) => cm W hW ((blk_cell H13.out.blk 0).trans (show _ = some (.int .i64 (b[i]).f0) from rfl))
         have c131 := fun (W : World) (hW : Below wr.drew.heap.size wr.drew W) => cm W hW ((blk_cell H13.out.blk 1).trans (show _ = some (.int .i64 (b[i]).f1) from rfl))
         have c132 := fun (W : World) (hW : Below wr.drew.heap.size wr.drew W) => cm W hW ((blk_cell H13.out.blk 2).trans (show _ = some (.slice A13 (b[i]).f2.length c13) from rfl))
         have ec13 := EXv.move (W1 := wr.drew) H13.out.val (below_drew (Below.refl _ _))
         have c9_0 := fun (W : World) (hW : Below wr.drew.heap.size wr.drew W) => cm W hW ((blk_cell H9.out.blk 0).trans (show _ = some (.int .i64 (cr).f0) from rfl))
         have c9_1 := fun (W : World) (hW : Below wr.drew.heap.size wr.drew W) => cm W hW ((blk_cell H9.out.blk 1).trans (show _ = some (.int .i64 (cr).f1) from rfl))
         have c9_2 := fun (W : World) (hW : Below wr.drew.heap.size wr.drew W) => cm W hW ((blk_cell H9.out.blk 2).trans (show _ = some (.slice A9 (cr).f2.length c9) from rfl))
         have ec9_ := EXv.move (W1 := wr.drew) H9.out.val (below_drew (Below.refl _ _))
         rw [← hok2e] at ec12
         rw [← hok2e] at ec13
         rw [← hok2e] at ec9_
         refine any_x [some 90, some 91, some 92, some 93, some 94, some 95, some 96, some 97, some 98, some 99, some 100, some 101, some 102, none] [some 90, some 91, some 92, some 93, some 94, some 95, some 96, some 97, some 98, some 99, some 100, some 101, some 102, none] [] 114 13 [0, 0, 3, 7, 0, 0, 0, 96, 239, 511, 1023, 2047, 4095, 8191] [VP.ex ok2 (a[i]), VP.ex ok2 (b[i]), VP.exs ok2 ([a[i], b[i]]), VP.ex ok2 ((⟨4, 0, [a[i], b[i]]⟩ : S31)), VP.ex ok2 (cr), VP.ex ok2 (a[i]), VP.ex ok2 (b[i]), VP.exs ok2 ([a[i], b[i]]), VP.ex ok2 ((⟨6, 0, [a[i], b[i]]⟩ : S31)), VP.exs ok2 ([cr, (⟨6, 0, [a[i], b[i]]⟩ : S31)]), VP.ex ok2 ((⟨4, 0, [cr, ⟨6, 0, [a[i], b[i]]⟩]⟩ : S31)), VP.exs ok2 ([(⟨4, 0, [a[i], b[i]]⟩ : S31), (⟨4, 0, [cr, ⟨6, 0, [a[i], b[i]]⟩]⟩ : S31)]), VP.ex ok2 ((⟨5, 0, [⟨4, 0, [a[i], b[i]]⟩, ⟨4, 0, [cr, ⟨6, 0, [a[i], b[i]]⟩]⟩]⟩ : S31))] (fun j hj => by cases hj) rfl wt105_22_tab rfl rfl (by kernel_rfl) rfl ⟨?_, ?_, ?_, ?_, ?_, ?_, ?_, ?_, ?_, ?_, ?_, ?_, ?_, trivial⟩ ?_
         ·intro bq W B hW hB hb hd K hK hK2 hK3; exact ld_step rfl rfl (hb 12) (c120 W hW) (c121 W hW) (c122 W hW) (hK _ _ (EXv.old ec12 hW hB) (Below.refl _ _))
         ·intro bq W B hW hB hb hd K hK hK2 hK3; exact ld_step rfl rfl (hb 13) (c130 W hW) (c131 W hW) (c132 W hW) (hK _ _ (EXv.old ec13 hW hB) (Below.refl _ _))
         ·intro bq W B hW hB hb hd K hK hK2 hK3; exact bs2_step rfl rfl rfl (hd 0 90) (hd 1 91) (fresh_ hok2 hW hB _ (Nat.le_refl _)) (fun v W' hv hb => hK v W' hv hb)
         ·intro bq W B hW hB hb hd K hK hK2 hK3; exact ex_step rfl rfl rfl (hd 2 92) (fresh_ hok2 hW hB) (fun v W' hv hb => hK v W' hv hb)
         ·intro bq W B hW hB hb hd K hK hK2 hK3; exact ld_step rfl rfl (hb 9) (c9_0 W hW) (c9_1 W hW) (c9_2 W hW) (hK _ _ (EXv.old ec9_ hW hB) (Below.refl _ _))
         ·intro bq W B hW hB hb hd K hK hK2 hK3; exact ld_step rfl rfl (hb 12) (c120 W hW) (c121 W hW) (c122 W hW) (hK _ _ (EXv.old ec12 hW hB) (Below.refl _ _))
         ·intro bq W B hW hB hb hd K hK hK2 hK3; exact ld_step rfl rfl (hb 13) (c130 W hW) (c131 W hW) (c132 W hW) (hK _ _ (EXv.old ec13 hW hB) (Below.refl _ _))
         ·intro bq W B hW hB hb hd K hK hK2 hK3; exact bs2_step rfl rfl rfl (hd 5 95) (hd 6 96) (fresh_ hok2 hW hB _ (Nat.le_refl _)) (fun v W' hv hb => hK v W' hv hb)
         ·intro bq W B hW hB hb hd K hK hK2 hK3; exact ex_step rfl rfl rfl (hd 7 97) (fresh_ hok2 hW hB) (fun v W' hv hb => hK v W' hv hb)
         ·intro bq W B hW hB hb hd K hK hK2 hK3; exact bs2_step rfl rfl rfl (hd 4 94) (hd 8 98) (fresh_ hok2 hW hB _ (Nat.le_refl _)) (fun v W' hv hb => hK v W' hv hb)
         ·intro bq W B hW hB hb hd K hK hK2 hK3; exact ex_step rfl rfl rfl (hd 9 99) (fresh_ hok2 hW hB) (fun v W' hv hb => hK v W' hv hb)
         ·intro bq W B hW hB hb hd K hK hK2 hK3; exact bs2_step rfl rfl rfl (hd 3 93) (hd 10 100) (fresh_ hok2 hW hB _ (Nat.le_refl _)) (fun v W' hv hb => hK v W' hv hb)
         ·intro bq W B hW hB hb hd K hK hK2 hK3; exact ex_step rfl rfl rfl (hd 11 101) (fresh_ hok2 hW hB) (fun v W' hv hb => hK v W' hv hb)
         ·intro vals F W B hF hW hBB hV _
          have hX : EXv (fun k => ok2 k ∧ ¬ B k) W (vals 102) (⟨5, 0, [⟨4, 0, [a[i], b[i]]⟩, ⟨4, 0, [cr, ⟨6, 0, [a[i], b[i]]⟩]⟩]⟩ : S31) := hV 12 102 (of_decide_eq_true (by kernel_rfl)) rfl
          have hbw : Below wr.heap.size wr W := ((below_drew1 (Below.refl wr.heap.size wr)).trans hW)
          have HX := Aside0.mk (EXv.mono (ok' := FP w S u5) hX (fun k hk => by rw [← hok2e]; exact hk.1))
          have q0_ := Aside0.mk (HS.out.below hbw)
          have q1_ := Aside0.mk (H9.out.below hbw)
          have q2_ := Aside0.mk (H10.out.below hbw)
          have q3_ := Aside0.mk (blk_below HG.out hbw)
          rw [hF]
          clear hF hV hBB hW hbw hX hok2 hok2e cm c120 c121 c122 ec12 c130 c131 c132 ec13 c9_0 c9_1 c9_2 ec9_ HS H9 H10 HG H12 H13
          simp only [List.take, fillA, Act.put, List.setIfInBounds_toArray, List.set_cons_zero, List.set_cons_succ]
          refine sto_ev (g := g9) (ok := FP w S u5) (x := (⟨5, 0, [⟨4, 0, [a[i], b[i]]⟩, ⟨4, 0, [cr, ⟨6, 0, [a[i], b[i]]⟩]⟩]⟩ : S31)) rfl rfl rfl rfl HX.out q1_.out.blk (fun w6 A8 c8 hk6 hv6 hw6 => ?_)
          have HS := Aside0.mk (q0_.out.write HSG.out.1 hw6)
          have H9 := Aside0.mk (Bx.made hk6 hv6 HSG.out.1 hw6)
          have H10 := Aside0.mk (q2_.out.write HSG.out.1 (Ne.symm HNE.out) hw6)
          have HG := Aside0.mk (blk_kept q3_.out hw6.kept HGN.out)
          clear q0_ q1_ q2_ q3_ HX hk6 hv6 hw6
          go_wp2
          go_roundg (gk - 1)
          case measure => omega
          case rel => exact ⟨i + 1, (⟨5, 0, [⟨4, 0, [a[i], b[i]]⟩, ⟨4, 0, [cr, ⟨6, 0, [a[i], b[i]]⟩]⟩]⟩ : S31), out ++ [(⟨6, 0, [⟨6, 0, [a[i], b[i]]⟩, cr]⟩ : S31)], A8, c8, rfl, by omega, by omega, ⟨by rw [List.length_append, HLN.out]; rfl⟩, HE2, HS, H9, H10, HG⟩
       have t3 : (kind == 3) = false := beq_eq_false_iff_ne.mpr h3
       by_cases h4 : kind = 4
       ·have hE := HE1.out
        rw [if_neg h3, if_pos h4] at hE
        have HE2 := Aside0.mk hE
        have t4 : (kind == 4) = true := beq_iff_eq.mpr h4
        clear hE HE1 h3 h4
        go_upto_region 24 with fail
        clear y0
        obtain ⟨ok2, hok2e⟩ : ∃ q, q = FP w S u5 := ⟨_, rfl⟩
        have hok2 : ∀ k, wr.heap.size ≤ k → ok2 k := fun k hk => by rw [hok2e]; exact FP.fresh HS.out k hk
        have cm : ∀ (W : World) {p : Addr} {v : Value}, Below wr.heap.size wr W → wr.cell? p = some v → W.cell? p = some v := fun W p v hW hx => (hW.cell (World.block_lt_of_cell? _ _ hx)).trans hx
        have c120 := fun (W : World) (hW : Below wr.heap.size wr W) => cm W hW ((blk_cell H12.out.blk 0).trans (show _ = some (.int .i64 (a[i]).f0) from rfl))
        have c121 := fun (W : World) (hW : Below wr.heap.size wr W) => cm W hW ((blk_cell H12.out.blk 1).trans (show _ = some (.int .i64 (a[i]).f1) from rfl))
        have c122 := fun (W : World) (hW : Below wr.heap.size wr W) => cm W hW ((blk_cell H12.out.blk 2).trans (show _ = some (.slice A12 (a[i]).f2.length c12) from rfl))
        have ec12 := EXv.move (W1 := wr) H12.out.val (Below.refl _ _)
        have c130 := fun (W : World) (hW : Below wr.heap.size wr W) => cm W hW ((blk_cell H13.out.blk 0).trans (show _ = some (.int .i64 (b[i]).f0) from rfl))
        have c131 := fun (W : World) (hW : Below wr.heap.size wr W) => cm W hW ((blk_cell H13.out.blk 1).trans (show _ = some (.int .i64 (b[i]).f1) from rfl))
        have c132 := fun (W : World) (hW : Below wr.heap.size wr W) => cm W hW ((blk_cell H13.out.blk 2).trans (show _ = some (.slice A13 (b[i]).f2.length c13) from rfl))
        have ec13 := EXv.move (W1 := wr) H13.out.val (Below.refl _ _)
        rw [← hok2e] at ec12
        rw [← hok2e] at ec13
        refine seq_x [some 105, some 106, some 107, some 108, some 109, some 110, some 111, some 5] 114 6 [VP.eq u5, VP.ex ok2 (a[i]), VP.ex ok2 (b[i]), VP.exs ok2 ([a[i], b[i]]), VP.ex ok2 ((⟨4, 0, [a[i], b[i]]⟩ : S31)), VP.exs ok2 ([(⟨4, 0, [a[i], b[i]]⟩ : S31)])] rfl rfl (by kernel_rfl) rfl ⟨?_, ?_, ?_, ?_, ?_, ?_, trivial⟩ ?_
        ·intro bq W B hW hB hb hd K hK hK2 hK3; exact mv_step rfl rfl (hb 5) (hK _ _ rfl (Below.refl _ _))
        ·intro bq W B hW hB hb hd K hK hK2 hK3; exact ld_step rfl rfl (hb 12) (c120 W hW) (c121 W hW) (c122 W hW) (hK _ _ (EXv.old ec12 hW hB) (Below.refl _ _))
        ·intro bq W B hW hB hb hd K hK hK2 hK3; exact ld_step rfl rfl (hb 13) (c130 W hW) (c131 W hW) (c132 W hW) (hK _ _ (EXv.old ec13 hW hB) (Below.refl _ _))
        ·intro bq W B hW hB hb hd K hK hK2 hK3; exact bs2_step rfl rfl rfl (hd 1 106) (hd 2 107) (fresh_ hok2 hW hB _ (Nat.le_refl _)) (fun v W' hv hb => hK v W' hv hb)
        ·intro bq W B hW hB hb hd K hK hK2 hK3; exact ex_step rfl rfl rfl (hd 3 108) (fresh_ hok2 hW hB) (fun v W' hv hb => hK v W' hv hb)
        ·intro bq W B hW hB hb hd K hK hK2 hK3; exact bs1_step rfl rfl rfl (hd 4 109) (fresh_ hok2 hW hB _ (Nat.le_refl _)) (fun v W' hv hb => hK v W' hv hb)
        ·intro vals F W B hF hW hBB hV _
         have hL : vals 105 = u5 := hV 0 105 (of_decide_eq_true (by kernel_rfl)) rfl
         have hX : EXs (fun k => ok2 k ∧ ¬ B k) W (vals 110) [(⟨4, 0, [a[i], b[i]]⟩ : S31)] := hV 5 110 (of_decide_eq_true (by kernel_rfl)) rfl
         have hbw : Below wr.heap.size wr W := hW
         have HX := Aside0.mk (EXs.mono (ok' := FP w S u5) hX (fun k hk => by rw [← hok2e]; exact hk.1))
         have q0_ := Aside0.mk (HS.out.below hbw)
         have q1_ := Aside0.mk (H9.out.below hbw)
         have q2_ := Aside0.mk (H10.out.below hbw)
         have q3_ := Aside0.mk (blk_below HG.out hbw)
         have q4_ := Aside0.mk (H12.out.below hbw)
         have q5_ := Aside0.mk (H13.out.below hbw)
         have q6_ := Aside0.mk (And.intro (Nat.lt_of_lt_of_le (blk_lt H12.out.blk) hbw.size) (Nat.lt_of_lt_of_le (blk_lt H13.out.blk) hbw.size))
         rw [hF]
         clear hF hV hBB hW hbw hX hok2 cm c120 c121 c122 ec12 c130 c131 c132 ec13 HS H9 H10 HG H12 H13
         simp only [hok2e] at *
         clear hok2e
         simp only [List.take, fillA, Act.put, List.setIfInBounds_toArray, List.set_cons_zero, List.set_cons_succ, hL]
         clear hL
         refine app_ev (w := w) (S := S) (out := out) rfl rfl rfl HX.out q0_.out (by have := HLN.out; have := hn; omega) (fun u6 w6 h6 hg6 hat6 => ?_)
         have HS := Aside0.mk h6
         have H9 := Aside0.mk (q1_.out.after (q0_.out.away HSG.out.1) hg6 hat6)
         have H10 := Aside0.mk (q2_.out.after (q0_.out.away HSG.out.2.1) hg6 hat6)
         have HG := Aside0.mk (blk_grown q3_.out hg6 (Kd.N_ne q0_.out.row q3_.out (by decide)))
         have H12 := Aside0.mk (q4_.out.after HF12.out.2 hg6 hat6)
         have H13 := Aside0.mk (q5_.out.after HF13.out.2 hg6 hat6)
         clear h6 hg6 hat6 q0_ q1_ q2_ q3_ q4_ q5_ q6_ HX HF12 HF13
         simp only [Act.put, List.setIfInBounds_toArray, List.set_cons_zero, List.set_cons_succ]
         go_wp2
         go_roundg (gk - 1)
         case measure => omega
         case rel => exact ⟨i + 1, cr, out ++ [(⟨4, 0, [a[i], b[i]]⟩ : S31)], A9, c9, rfl, by omega, by omega, ⟨by rw [List.length_append, HLN.out]; rfl⟩, HE2, HS, H9, H10, HG⟩
       have t4 : (kind == 4) = false := beq_eq_false_iff_ne.mpr h4
       have hE := HE1.out
       rw [if_neg h3, if_neg h4] at hE
       have HE2 := Aside0.mk hE
       clear hE HE1 h3 h4
       go_upto_region 19 with fail
       clear y0
       obtain ⟨ok2, hok2e⟩ : ∃ q, q = FP w S u5 := ⟨_, rfl⟩
       have hok2 : ∀ k, wr.heap.size ≤ k → ok2 k := fun k hk => by rw [hok2e]; exact FP.fresh HS.out k hk
       have cm : ∀ (W : World) {p : Addr} {v : Value}, Below wr.heap.size wr W → wr.cell? p = some v → W.cell? p = some v := fun W p v hW hx => (hW.cell (World.block_lt_of_cell? _ _ hx)).trans hx
       have c10_0 := fun (W : World) (hW : Below wr.heap.size wr W) => cm W hW ((blk_cell H10.out.blk 0).trans (show _ = some (.int .i64 (lessE a b).f0) from rfl))
       have c10_1 := fun (W : World) (hW : Below wr.heap.size wr W) => cm W hW ((blk_cell H10.out.blk 1).trans (show _ = some (.int .i64 (lessE a b).f1) from rfl))
       have c10_2 := fun (W : World) (hW : Below wr.heap.size wr W) => cm W hW ((blk_cell H10.out.blk 2).trans (show _ = some (.slice A10 (lessE a b).f2.length c10) from rfl))
       have ec10_ := EXv.move (W1 := wr) H10.out.val (Below.refl _ _)
       have c120 := fun (W : World) (hW : Below wr.heap.size wr W) => cm W hW ((blk_cell H12.out.blk 0).trans (show _ = some (.int .i64 (a[i]).f0) from rfl))
       have c121 := fun (W : World) (hW : Below wr.heap.size wr W) => cm W hW ((blk_cell H12.out.blk 1).trans (show _ = some (.int .i64 (a[i]).f1) from rfl))
       have c122 := fun (W : World) (hW : Below wr.heap.size wr W) => cm W hW ((blk_cell H12.out.blk 2).trans (show _ = some (.slice A12 (a[i]).f2.length c12) from rfl))
       have ec12 := EXv.move (W1 := wr) H12.out.val (Below.refl _ _)
       have c130 := fun (W : World) (hW : Below wr.heap.size wr W) => cm W hW ((blk_cell H13.out.blk 0).trans (show _ = some (.int .i64 (b[i]).f0) from rfl))
       have c131 := fun (W : World) (hW : Below wr.heap.size wr W) => cm W hW ((blk_cell H13.out.blk 1).trans (show _ = some (.int .i64 (b[i]).f1) from rfl))
       have c132 := fun (W : World) (hW : Below wr.heap.size wr W) => cm W hW ((blk_cell H13.out.blk 2).trans (show _ = some (.slice A13 (b[i]).f2.length c13) from rfl))
       have ec13 := EXv.move (W1 := wr) H13.out.val (Below.refl _ _)
       rw [← hok2e] at ec10_
       rw [← hok2e] at ec12
       rw [← hok2e] at ec13
       refine seq_x [some 70, some 71, some 72, some 73, some 74, some 75, some 76, some 77, some 5] 114 7 [VP.eq u5, VP.ex ok2 (lessE a b), VP.ex ok2 (a[i]), VP.ex ok2 (b[i]), VP.exs ok2 ([lessE a b, a[i], b[i]]), VP.ex ok2 ((⟨7, 0, [lessE a b, a[i], b[i]]⟩ : S31)), VP.exs ok2 ([(⟨7, 0, [lessE a b, a[i], b[i]]⟩ : S31)])] rfl rfl (by kernel_rfl) rfl ⟨?_, ?_, ?_, ?_, ?_, ?_, ?_, trivial⟩ ?_
       ·intro bq W B hW hB hb hd K hK hK2 hK3; exact mv_step rfl rfl (hb 5) (hK _ _ rfl (Below.refl _ _))
       ·intro bq W B hW hB hb hd K hK hK2 hK3; exact ld_step rfl rfl (hb 10) (c10_0 W hW) (c10_1 W hW) (c10_2 W hW) (hK _ _ (EXv.old ec10_ hW hB) (Below.refl _ _))
       ·intro bq W B hW hB hb hd K hK hK2 hK3; exact ld_step rfl rfl (hb 12) (c120 W hW) (c121 W hW) (c122 W hW) (hK _ _ (EXv.old ec12 hW hB) (Below.refl _ _))
       ·intro bq W B hW hB hb hd K hK hK2 hK3; exact ld_step rfl rfl (hb 13) (c130 W hW) (c131 W hW) (c132 W hW) (hK _ _ (EXv.old ec13 hW hB) (Below.refl _ _))
       ·intro bq W B hW hB hb hd K hK hK2 hK3; exact bs3_step rfl rfl rfl (hd 1 71) (hd 2 72) (hd 3 73) (fresh_ hok2 hW hB _ (Nat.le_refl _)) (fun v W' hv hb => hK v W' hv hb)
       ·intro bq W B hW hB hb hd K hK hK2 hK3; exact ex_step rfl rfl rfl (hd 4 74) (fresh_ hok2 hW hB) (fun v W' hv hb => hK v W' hv hb)
       ·intro bq W B hW hB hb hd K hK hK2 hK3; exact bs1_step rfl rfl rfl (hd 5 75) (fresh_ hok2 hW hB _ (Nat.le_refl _)) (fun v W' hv hb => hK v W' hv hb)
       ·intro vals F W B hF hW hBB hV _
        have hL : vals 70 = u5 := hV 0 70 (of_decide_eq_true (by kernel_rfl)) rfl
        have hX : EXs (fun k => ok2 k ∧ ¬ B k) W (vals 76) [(⟨7, 0, [lessE a b, a[i], b[i]]⟩ : S31)] := hV 6 76 (of_decide_eq_true (by kernel_rfl)) rfl
        have hbw : Below wr.heap.size wr W := hW
        have HX := Aside0.mk (EXs.mono (ok' := FP w S u5) hX (fun k hk => by rw [← hok2e]; exact hk.1))
        have q0_ := Aside0.mk (HS.out.below hbw)
        have q1_ := Aside0.mk (H9.out.below hbw)
        have q2_ := Aside0.mk (H10.out.below hbw)
        have q3_ := Aside0.mk (blk_below HG.out hbw)
        have q4_ := Aside0.mk (H12.out.below hbw)
        have q5_ := Aside0.mk (H13.out.below hbw)
        have q6_ := Aside0.mk (And.intro (Nat.lt_of_lt_of_le (blk_lt H12.out.blk) hbw.size) (Nat.lt_of_lt_of_le (blk_lt H13.out.blk) hbw.size))
        rw [hF]
        clear hF hV hBB hW hbw hX hok2 cm c10_0 c10_1 c10_2 ec10_ c120 c121 c122 ec12 c130 c131 c132 ec13 HS H9 H10 HG H12 H13
        simp only [hok2e] at *
        clear hok2e
        simp only [List.take, fillA, Act.put, List.setIfInBounds_toArray, List.set_cons_zero, List.set_cons_succ, hL]
        clear hL
        refine app_ev (w := w) (S := S) (out := out) rfl rfl rfl HX.out q0_.out (by have := HLN.out; have := hn; omega) (fun u6 w6 h6 hg6 hat6 => ?_)
        have HS := Aside0.mk h6
        have H9 := Aside0.mk (q1_.out.after (q0_.out.away HSG.out.1) hg6 hat6)
        have H10 := Aside0.mk (q2_.out.after (q0_.out.away HSG.out.2.1) hg6 hat6)
        have HG := Aside0.mk (blk_grown q3_.out hg6 (Kd.N_ne q0_.out.row q3_.out (by decide)))
        have H12 := Aside0.mk (q4_.out.after HF12.out.2 hg6 hat6)
        have H13 := Aside0.mk (q5_.out.after HF13.out.2 hg6 hat6)
        clear h6 hg6 hat6 q0_ q1_ q2_ q3_ q4_ q5_ q6_ HX HF12 HF13
        simp only [Act.put, List.setIfInBounds_toArray, List.set_cons_zero, List.set_cons_succ]
        go_wp2
        go_roundg (gk - 1)
        case measure => omega
        case rel => exact ⟨i + 1, cr, out ++ [(⟨7, 0, [lessE a b, a[i], b[i]]⟩ : S31)], A9, c9, rfl, by omega, by omega, ⟨by rw [List.length_append, HLN.out]; rfl⟩, HE2, HS, H9, H10, HG⟩
     ·obtain rfl : i = n := by omega
      have hE := HE.out
      rw [show a.drop i = [] from List.drop_eq_nil_of_le (by omega), rnd_nil] at hE
      subst hE
      go_wp2
      go_ret
      exact ⟨_, rfl, EXs.mono (EXs.of (b := 0) (Kd.N_V HS.out.row)) (fun k hk => hk.1), HS.out.base⟩
end Go.Proofs.Ytcmkkoggdcjceaa.PFnExactWordBits
end
section
namespace Go.Proofs.Ytcmkkoggdcjceaa.PFnExactWordBits
open Go.RowKit Go.Proofs.YtcmkkoggdcjceaaW.PrintWords Go.Proofs.YtcmkkoggdcjceaaW.PrintLast Go.Proofs.YtcmkkoggdcjceaaW.PrintMore
attribute [local go_sem] max2_int min2_int max_two min_two max_three min_three max_four min_four   -- for this text's walks alone
set_option linter.unusedVariables false
set_option linter.unusedSimpArgs false
theorem EXs.C {ok : Nat → Prop} {W : World} {v : Value} {xs : List S31} (h : EXs ok W v xs) : ∃ A c, v = .slice A xs.length c ∧ xs.length ≤ c ∧ Kd.C k31 W A xs.length xs := by
 obtain ⟨A, c, e, hl, hF⟩ := h
 exact ⟨A, c, e, hl, Kd.F_now hF⟩
def cloneL (k : Nat) : List S31 → List S31 → Option (List S31)
 | [], out => some out
 | x :: r, out => (impl_cloneEx.f k x.f0 x.f1 x.f2).bind fun t => if out.length ≤ 1000 then cloneL k r (out ++ [⟨t.1, t.2.1, t.2.2⟩]) else none
def impl_checkedExs.f (k : Nat) (l : List S31) : Option (List S31 × Int) := (impl_areExs.f l).bind fun t => if t = true then (cloneL k l []).bind fun r => some (r, 0) else some ([], 11)
set_option maxHeartbeats 4000000 in
set_option maxRecDepth 100000 in
theorem impl_checkedExs.calls (k : Nat) (A : Option Addr) (c : Nat) (l r : List S31) (q : Int) (w : World) (hC : Kd.C k31 w A l.length l) (hc : l.length ≤ c) (h : impl_checkedExs.f k l = some (r, q)) :
  Calls Try.prog 104 #[.slice A l.length c] w fun e w' => ∃ v, e = .returned (.tuple #[v, .int .i64 q]) ∧ Kd.S kS31 31 w' w.heap.size (fun _ => True) v r ∧ Below w.heap.size w w' := by
 have hu31 := Try.underlying31
 have hu29 := Try.underlying29
 have hmax : l.length ≤ 9223372036854775807 := Kd.C_max hC
 have HC := Aside0.mk hC
 have HB := Aside0.mk (Below.refl w.heap.size w)
 clear hC
 unfold impl_checkedExs.f at h
 obtain ⟨t, ht, h⟩ := Option.bind_eq_some_iff.1 h
 have hare := fun W (hb : Below w.heap.size w W) => impl_areExs.calls A c l t W (Kd.C_below HC.out hb) hc ht
 clear ht
 go_enter Try.func104, Try.ntmps104
 cases t with
 | false =>
  rw [if_neg (by decide)] at h
  cases h
  go_wp2_with (go_at_call 80; refine (hare _ HB.out).mono ?_; rintro e w1 ⟨rfl, hb⟩; have m0_ := Aside0.mk (HB.out.trans (hb.mono HB.out.size)); clear HB hb hare; have HB := m0_; clear m0_)
  go_ret2
  exact ⟨_, rfl, Kd.S_nil _ _ _ _ _, HB.out⟩
 | true =>
  rw [if_pos rfl] at h
  obtain ⟨r', hr, h⟩ := Option.bind_eq_some_iff.1 h
  cases h
  have HR := Aside0.mk hr
  clear hr
  go_wp2_with (go_at_call 80; refine (hare _ HB.out).mono ?_; rintro e w1 ⟨rfl, hb⟩; have m0_ := Aside0.mk (HB.out.trans (hb.mono HB.out.size)); clear HB hb hare; have HB := m0_; clear m0_)
  go_loopg [4, 12] l.length (fun gg v4 v12 wr => ∃ (i : Nat) (out : List S31), v12 = .int .i64 i ∧ i ≤ l.length ∧ l.length - i ≤ gg ∧ Aside0 (cloneL k (l.drop i) out = some r) ∧ Aside0 (Kd.S kS31 31 wr w.heap.size (fun _ => True) v4 out) ∧ Aside0 (Below w.heap.size w wr))
  case atStart => exact ⟨0, [], rfl, Nat.zero_le _, by omega, HR, ⟨Kd.S_nil _ _ _ _ _⟩, HB⟩
  case round =>
   clear HR HB
   obtain ⟨i, out, rfl, hi, hgk, HR, HS, HB⟩ := hrel
   by_cases hlt : i < l.length
   ·have hltz : (i : Int) < (l.length : Int) := by omega
    have h0z : (0 : Int) ≤ (i : Int) := by omega
    have ew : IntKind.i64.wrap ((i : Int) + 1) = ((i + 1 : Nat) : Int) := IntWalk.i64_in _ (by omega)
    obtain ⟨ad, A2, c2, ea, hx0, hx1, hx2, hlc2, hC2⟩ := at_T31 HC.out (i : Int) h0z hltz
    subst ea
    have hrd : rd_T31 l (i : Int) = l[i] := by unfold rd_T31; simp [List.getD, hlt]
    rw [Int.toNat_natCast, hrd] at hx0 hx1 hx2
    rw [hrd] at hlc2 hC2
    replace hx0 := (HB.out.cell (World.block_lt_of_cell? w _ hx0)).trans hx0
    replace hx1 := (HB.out.cell (World.block_lt_of_cell? w _ hx1)).trans hx1
    replace hx2 := (HB.out.cell (World.block_lt_of_cell? w _ hx2)).trans hx2
    have hr := HR.out
    rw [List.drop_eq_getElem_cons hlt, cloneL] at hr
    obtain ⟨⟨t1, t2, t3⟩, hcl, hr⟩ := Option.bind_eq_some_iff.1 hr
    by_cases hll : out.length ≤ 1000
    rotate_left
    ·rw [if_neg hll] at hr; cases hr
    rw [if_pos hll] at hr
    have HR2 := Aside0.mk hr
    have HLL := Aside0.mk hll
    have HCL := Aside0.mk hcl
    have HC2 := Aside0.mk (And.intro hC2 hlc2)
    clear hr hll hcl hC2 hlc2 HR hrd
    generalize l[i] = x at hx0 hx1 hx2 HCL HC2
    go_upto_region 7 with (first
     | ((with_reducible refine gate_dst (N := 6) rfl ?_); refine box_event ?hg (N := 6) ?hd (cs := #[.int .i64 0, .int .i64 0, .slice none 0 0]) (t := 31) ?hr ?_; (case hd => rfl); (case hg => rfl); (case hr => first | (go_simp; done) | (go_simp; rfl)); intro g6 hgw wbitsF hbox hbb; have hcz0 := (blk_cell hbox 0).trans (show _ = some (.int .i64 0) from rfl); have hcz1 := (blk_cell hbox 1).trans (show _ = some (.int .i64 0) from rfl); have hcz2 := (blk_cell hbox 2).trans (show _ = some (.slice none 0 0) from rfl); have hfz0 := blk_frozen hbox 0; have hfz1 := blk_frozen hbox 1; have hfz2 := blk_frozen hbox 2; have HGW := Aside0.mk hgw; have HBX := Aside0.mk hbox; have HBB := Aside0.mk hbb; clear hgw hbb hbox hx0 hx1 hx2)
     | ((with_reducible refine gate_store (t := 31) (p := 6) rfl ?_); refine store_event (t := 31) (p := 6) (v := ?vo) (w1 := ((wbitsF.setCell ⟨g6, 0, none⟩ (.int .i64 x.f0)).setCell ⟨g6, 1, none⟩ (.int .i64 x.f1)).setCell ⟨g6, 2, none⟩ (.slice A2 x.f2.length c2)) ?hg ?ho ?hn ?hr ?_; (case ho => rfl); (case hg => rfl); (case hn => rfl); (case hr => first | (go_simp; done) | (go_simp; rfl)); clear hcz0 hcz1 hcz2 hfz0 hfz1 hfz2; intro w4 hw_; obtain ⟨hbk, hkb⟩ := box_put3 (a := .int .i64 x.f0) (b := .int .i64 x.f1) (v := .slice A2 x.f2.length c2) HBX.out; rw [← hw_] at hbk hkb; clear hw_))
    have hb4 : Below wr.heap.size wr w4 := hkb.below wr HBB.out (Nat.le_of_eq HGW.out.symm)
    have HB4 := Aside0.mk (HB.out.trans (hb4.mono HB.out.size))
    have HS4 := Aside0.mk (Kd.S_below HS.out hb4)
    have y0 := (blk_cell hbk 0).trans (show _ = some (.int .i64 x.f0) from rfl)
    have y1 := (blk_cell hbk 1).trans (show _ = some (.int .i64 x.f1) from rfl)
    have y2 := (blk_cell hbk 2).trans (show _ = some (.slice A2 x.f2.length c2) from rfl)
    clear hb4 hbk hkb HGW HBX HBB HB HS
    go_wp2_with (first
     | (go_at_call 122; refine (cloneS.calls k x.f0 x.f1 A2 c2 x.f2 t1 t2 t3 _ (Kd.C_below HC2.out.1 HB4.out) HC2.out.2 HCL.out).mono ?_; rintro e w5 ⟨v5, rfl, hS5, hb⟩; have HB5 := Aside0.mk (HB4.out.trans (hb.mono HB4.out.size)); have H45 := Aside0.mk hb.size; have H4 := Aside0.mk HB4.out.size; have HO5 := Aside0.mk (Kd.S_below (Kd.S_bound HS4.out) hb); have HN5 := Aside0.mk (Kd.S_lt HS4.out); have HC5 := Aside0.mk (Kd.S_lower (Kd.S_bound hS5) HB4.out.size); obtain ⟨Ao, co, eo⟩ := Kd.S_slice hS5; subst eo; clear hS5 hb y0 y1 y2 HS4 HB4)
     | ((with_reducible refine gate_builtin (b := .append) (xs := #[.tmp 16, .tmp 19]) rfl ?_); at_builtin; refine Kd.S_append kS31 (w0 := w) w.heap.size rfl (.tmp 16) (.tmp 19) 29 31 (.agg #[(.int .i64 0), (.int .i64 0), (.slice none 0 0)]) 40 rfl Try.underlying29 inf31 rfl (by decide) (by decide) u4 out (⟨t1, t2, t3⟩ : S31) [.int .i64 t1, .int .i64 t2, .slice Ao t3.length co] (fun _ => True) (fun k_ => w4.heap.size ≤ k_) rfl rfl ?aP (fun k_ hk => ⟨trivial, fun e_ => by have h1_ := HN5.out k_ e_.symm; have h2_ : w4.heap.size ≤ k_ := hk; omega⟩) ?aF ?aO ?aB ?aS ?aL ?_; (case aP => exact kS31_mkM _ _ _ (⟨t1, t2, t3⟩ : S31) (Kd.S_mono HC5.out (fun k_ hk => hk.2.1))); (case aF => exact fun _ _ => trivial); (case aO => exact Kd.S_mono HO5.out (fun k_ hk => ⟨trivial, fun h_ => by have h1_ := hk.2.2.1; omega⟩)); (case aB => exact HB5.out); (case aS => exact HB5.out.size); (case aL => have := HLL.out; omega); intro v7 w7 ho hb hg2 hat; have HS7 := Aside0.mk ho; have HB7 := Aside0.mk hb; clear ho hb hg2 hat HO5 HC5 HN5 HB5))
    go_roundg (gk - 1)
    case measure => omega
    case rel => exact ⟨i + 1, _, rfl, by omega, by omega, HR2, HS7, HB7⟩
   ·obtain rfl : i = l.length := by omega
    have hr := HR.out
    rw [List.drop_length, cloneL] at hr
    cases hr
    go_wp2
    go_ret2
    exact ⟨_, rfl, HS.out, HB.out⟩
def impl_WordBits.f (k : Nat) (a0 a1 : Int) (l2 : List S81) (n : Int) : Option (List S31 × Int) :=
 (impl_isWord.f a0 a1 l2 n).bind fun t => if t = true then (if 0 ≤ n ∧ n ≤ 6 then (wbitsF n.toNat 10 a0 a1 l2).bind fun r => impl_checkedExs.f k r else none) else some ([], 1)
set_option maxHeartbeats 4000000 in
set_option maxRecDepth 100000 in
theorem impl_WordBits.calls (k : Nat) (a0 a1 : Int) (A : Option Addr) (c : Nat) (l2 : List S81) (n : Int) (r : List S31) (q : Int) (w : World) (hC : Kd.C k81 w A l2.length l2) (hc : l2.length ≤ c) (h : impl_WordBits.f k a0 a1 l2 n = some (r, q)) :
  Calls Try.prog 49 #[.agg #[.int .i64 a0, .int .i64 a1, .slice A l2.length c], .int .i64 n] w fun e w' => ∃ v, e = .returned (.tuple #[v, .int .i64 q]) ∧ Kd.S kS31 31 w' w.heap.size (fun _ => True) v r ∧ Below w.heap.size w w' := by
 have hu31 := Try.underlying31
 have hu81 := Try.underlying81
 have HC := Aside0.mk hC
 clear hC
 unfold impl_WordBits.f at h
 obtain ⟨t, ht, h⟩ := Option.bind_eq_some_iff.1 h
 have hisw := fun W (hb : Below w.heap.size w W) => impl_isWord.calls a0 a1 A c l2 n t W (Kd.C_below HC.out hb) hc ht
 clear ht
 obtain ⟨g, hg⟩ : ∃ g, w.heap.size = g := ⟨_, rfl⟩
 go_enter Try.func49, Try.ntmps49
 go_upto_region 1 with fail
 have hb2 : Below w.heap.size w (w.alloc (.cells #[.int .i64 a0, .int .i64 a1, .slice A l2.length c] 81)) := below_alloc (Below.refl _ _) _
 have k1 : (w.alloc (.cells #[.int .i64 a0, .int .i64 a1, .slice A l2.length c] 81)).heap[g]? = some (.cells #[.int .i64 a0, .int .i64 a1, .slice A l2.length c] 81 (0, 0)) := by rw [← hg]; exact blk_new w _
 generalize w.alloc (.cells #[.int .i64 a0, .int .i64 a1, .slice A l2.length c] 81) = wq at hb2 k1 ⊢
 have y0 := (blk_cell k1 0).trans (show _ = some (.int .i64 a0) from rfl)
 have y1 := (blk_cell k1 1).trans (show _ = some (.int .i64 a1) from rfl)
 have y2 := (blk_cell k1 2).trans (show _ = some (.slice A l2.length c) from rfl)
 have HG := Aside0.mk k1
 have HB := Aside0.mk hb2
 clear hg hb2 k1
 cases t with
 | false =>
  rw [if_neg (by decide)] at h
  cases h
  go_wp2_with (go_at_call 103; refine (hisw _ HB.out).mono ?_; rintro e w1 ⟨rfl, hb⟩; have m0_ := Aside0.mk (HB.out.trans (hb.mono HB.out.size)); clear HB hb hisw y0 y1 y2; have HB := m0_; clear m0_)
  go_ret2
  exact ⟨_, rfl, Kd.S_nil _ _ _ _ _, HB.out⟩
 | true =>
  rw [if_pos rfl] at h
  rcases Classical.em (¬ (0 ≤ n ∧ n ≤ 6)) with hn | hn
  ·rw [if_neg hn] at h; cases h
  replace hn := Classical.not_not.1 hn
  rw [if_pos hn] at h
  obtain ⟨m, hm⟩ : ∃ m : Nat, n = m := ⟨n.toNat, by omega⟩
  subst hm
  rw [Int.toNat_natCast] at h
  obtain ⟨b, hwb, h⟩ := Option.bind_eq_some_iff.1 h
  have hwbs := fun W (hb : Below w.heap.size w W) => wbits_any m (by omega) 10 a0 a1 A c l2 b W (Kd.C_below HC.out hb) hc hwb
  have HH := Aside0.mk h
  clear h hwb
  go_upto_region 3 with (go_at_call 103; refine (hisw _ HB.out).mono ?_; rintro e w1 ⟨rfl, hb⟩; have m0_ := Aside0.mk (HB.out.trans (hb.mono HB.out.size)); have m1_ := Aside0.mk (blk_below HG.out hb); clear HB HG hb hisw y0 y1 y2; have HB := m0_; have HG := m1_; clear m0_ m1_)
  have y0 := (blk_cell HG.out 0).trans (show _ = some (.int .i64 a0) from rfl)
  have y1 := (blk_cell HG.out 1).trans (show _ = some (.int .i64 a1) from rfl)
  have y2 := (blk_cell HG.out 2).trans (show _ = some (.slice A l2.length c) from rfl)
  go_wp2_with (first
   | (go_at_call 105; refine (hwbs _ HB.out).mono ?_; rintro e w2 ⟨v, rfl, hv, hb⟩; have m0_ := Aside0.mk (HB.out.trans (hb.mono HB.out.size)); clear HB hb hwbs y0 y1 y2 HG; have HB := m0_; clear m0_; obtain ⟨Ab, cb, eb, lb, Cb⟩ := EXs.C hv; subst eb; clear hv)
   | (go_at_call 104; refine (impl_checkedExs.calls k Ab cb b r q _ Cb lb HH.out).mono ?_; rintro e w3 ⟨v, rfl, hv, hb⟩; have HS := Aside0.mk (Kd.S_lower hv HB.out.size); have m0_ := Aside0.mk (HB.out.trans (hb.mono HB.out.size)); clear HB hb hv Cb lb; have HB := m0_; clear m0_))
  go_ret2
  exact ⟨_, rfl, HS.out, HB.out⟩
mutual
def spec_l04Left.l0 : Nat → Int → Int → Int → Int → Int → List (S31) → Option (Int)
 | 0, _, _, _, _, _, _ => none
 | k + 1, x1, x2, x7, x136000, x136001, x136002 => if x7 < (x136002.length : Int) then (if x1 ≥ 0 then (if 0 ≤ x7 then ((spec_l04Left.f k ((rd_T31 x136002 x7).f0) ((rd_T31 x136002 x7).f1) ((rd_T31 x136002 x7).f2) x1 (wrap64 (x2 + 1))).bind fun t137 => (spec_l04Left.l0 k t137 x2 (wrap64 (x7 + 1)) x136000 x136001 x136002)) else (none)) else (some x1)) else (some x1)
def spec_l04Left.f : Nat → Int → Int → List (S31) → Int → Int → Option (Int)
 | 0, _, _, _, _, _ => none
 | k + 1, a0_0, a0_1, l0_2, a1, a2 => if a2 > 40 then (some (-1)) else (spec_l04Left.l0 k (wrap64 (a1 - 1)) a2 0 a0_0 a0_1 l0_2)
end
set_option maxHeartbeats 8000000 in
set_option maxRecDepth 100000 in
theorem spec_l04Left.calls (k : Nat) : ∀ (a0_0 : Int) (a0_1 : Int) (A0_2 : Option Addr) (c0_2 : Nat) (l0_2 : List (S31)) (a1 : Int) (a2 : Int) (r : Int) (w : World) (hr0_2 : Kd.C k31 w A0_2 l0_2.length l0_2) (hc0_2 : l0_2.length ≤ c0_2) (h : spec_l04Left.f k a0_0 a0_1 l0_2 a1 a2 = some r),
  Calls Try.prog 111 #[.agg #[.int .i64 a0_0, .int .i64 a0_1, .slice A0_2 l0_2.length c0_2], .int .i64 a1, .int .i64 a2] w fun e w' => e = .returned (.int .i64 r) ∧ Below w.heap.size w w' := by
 induction k using Nat.strongRecOn with
 | _ k ih =>
 intro a0_0 a0_1 A0_2 c0_2 l0_2 a1 a2 r w hr0_2 hc0_2 h
 cases k with
 | zero => exact absurd h (by simp [spec_l04Left.f])
 | succ k =>
 simp only [spec_l04Left.f] at h
 have hu31 := Try.underlying31
 have HR0_2 := Aside0.mk hr0_2
 have HC0_2 := Aside0.mk hc0_2
 clear hr0_2 hc0_2
 have HB := Aside0.mk (Below.refl w.heap.size w)
 have H : (if a2 > 40 then (some (-1)) else (spec_l04Left.l0 k (wrap64 (a1 - 1)) a2 0 a0_0 a0_1 l0_2)) = some r := h
 clear h
 by_cases c4 : a2 > 40
 ·rw [if_pos c4] at H
  have c4b0 : decide (40 < a2) = true := decide_eq_true c4
  clear c4
  obtain rfl := Option.some.inj H
  go_enter Try.func111, Try.ntmps111
  go_wp2_with (first | ((with_reducible refine gate_dst (N := 3) rfl ?_); refine box_event ?hg (N := 3) ?hd (cs := #[.int .i64 a0_0, .int .i64 a0_1, .slice A0_2 l0_2.length c0_2]) (t := 31) ?hr ?_; (case hd => rfl); (case hg => rfl); (case hr => first | (go_simp; done) | (go_simp; rfl)); intro gb135 hg w5 hbox hb; have n0_ := Aside0.mk (below_step (by repeat (first | (with_reducible first | exact HB.out | apply below_alloc | apply pw_below_drewN | apply below_drew1) | exact HB.out)) hb); have n1_ := Aside0.mk (hbox); have n2_ := Aside0.mk ((by rw [hg]; exact (below_size (by repeat (first | (with_reducible first | exact HB.out | apply below_alloc | apply pw_below_drewN | apply below_drew1) | exact HB.out))) : w.heap.size ≤ gb135)); have n3_ := Aside0.mk ((by rw [hg]; exact (below_size (by repeat (first | (with_reducible first | exact HB.out | apply below_alloc | apply pw_below_drewN | apply below_drew1) | exact HB.out))) : w.heap.size ≤ gb135)); clear HB; have HB := n0_; have BK135 := n1_; have GW135 := n2_; have GE135 := n3_; clear n0_ n1_ n2_ n3_; clear hb hbox hg))
  go_ret
  exact ⟨by first | rfl | (simp [errW_none, errW_some] <;> rfl) | (simp [*, errW_none, errW_some] <;> rfl), by repeat (first | (with_reducible first | exact HB.out | apply below_alloc | apply pw_below_drewN | apply below_drew1 | refine below_set ?_ GE135.out) | exact HB.out)⟩
 ·rw [if_neg c4] at H
  have c4b0 : decide (40 < a2) = false := decide_eq_false c4
  clear c4
  have H' := Aside0.mk H
  clear H
  go_enter Try.func111, Try.ntmps111
  go_wp2_with (first | ((with_reducible refine gate_dst (N := 3) rfl ?_); refine box_event ?hg (N := 3) ?hd (cs := #[.int .i64 a0_0, .int .i64 a0_1, .slice A0_2 l0_2.length c0_2]) (t := 31) ?hr ?_; (case hd => rfl); (case hg => rfl); (case hr => first | (go_simp; done) | (go_simp; rfl)); intro gb135 hg w6 hbox hb; have n0_ := Aside0.mk (below_step (by repeat (first | (with_reducible first | exact HB.out | apply below_alloc | apply pw_below_drewN | apply below_drew1) | exact HB.out)) hb); have n1_ := Aside0.mk (hbox); have n2_ := Aside0.mk ((by rw [hg]; exact (below_size (by repeat (first | (with_reducible first | exact HB.out | apply below_alloc | apply pw_below_drewN | apply below_drew1) | exact HB.out))) : w.heap.size ≤ gb135)); have n3_ := Aside0.mk ((by rw [hg]; exact (below_size (by repeat (first | (with_reducible first | exact HB.out | apply below_alloc | apply pw_below_drewN | apply below_drew1) | exact HB.out))) : w.heap.size ≤ gb135)); clear HB; have HB := n0_; have BK135 := n1_; have GW135 := n2_; have GE135 := n3_; clear n0_ n1_ n2_ n3_; clear hb hbox hg))
  go_loopg [1, 7] k (fun kq v1 v7 w' => ∃ (x1_1 : Int) (x7_1 : Int), v1 = .int .i64 x1_1 ∧ v7 = .int .i64 x7_1 ∧ Aside0 (spec_l04Left.l0 kq x1_1 a2 x7_1 a0_0 a0_1 l0_2 = some r) ∧ Aside0 (kq ≤ k) ∧ Aside0 (w'.heap[gb135]? = some (.cells #[.int .i64 a0_0, .int .i64 a0_1, (.slice A0_2 l0_2.length c0_2)] 31 (0, 0))) ∧ Aside0 (Below w.heap.size w w'))
  case atStart => exact ⟨(wrap64 (a1 - 1)), (0), (by first | rfl | (simp; done) | (simp [*]; done)), (by first | rfl | (simp; done) | (simp [*]; done)), H', ⟨Nat.le_refl _⟩, ⟨by (with_reducible repeat (first | refine blk_drewN ?_ _ | refine blk_drew ?_ | refine blk_alloc ?_ _)); exact BK135.out⟩, ⟨by repeat (first | (with_reducible first | exact HB.out | apply below_alloc | apply pw_below_drewN | apply below_drew1 | refine below_set ?_ GE135.out) | exact HB.out)⟩⟩
  case round =>
   clear H'
   try clear c1
   try clear p2
   try clear c4
   try clear c4b0
   try clear p6
   obtain ⟨x1_1, x7_1, rfl, rfl, HA, HK1, BK135, HB⟩ := hrel
   cases gk with
   | zero => exact absurd HA.out (by simp [spec_l04Left.l0])
   | succ k1 =>
    have H := HA.out
    clear HA
    simp only [spec_l04Left.l0] at H
    by_cases c7 : x7_1 < (l0_2.length : Int)
    ·rw [if_pos c7] at H
     have c7b0 : decide (x7_1 < (l0_2.length : Int)) = true := decide_eq_true c7
     clear c7
     by_cases c8 : x1_1 ≥ 0
     ·rw [if_pos c8] at H
      have c8b0 : decide (0 ≤ x1_1) = true := decide_eq_true c8
      clear c8
      by_cases c9 : 0 ≤ x7_1
      ·rw [if_pos c9] at H
       have c9b0 : decide (0 ≤ x7_1) = true := decide_eq_true c9
       clear c9
       replace H := Option.bind_eq_some_iff.mp H
       obtain ⟨t137, A100, H⟩ := H
       replace H : (spec_l04Left.l0 k1 t137 a2 (wrap64 (x7_1 + 1)) a0_0 a0_1 l0_2) = some r := H
       have A10 := Aside0.mk A100
       clear A100
       have H' := Aside0.mk H
       clear H
       have hcz11_0 : wr.cell? ⟨gb135, 0, none⟩ = some (.int .i64 a0_0) := (blk_cell BK135.out 0).trans rfl
       have hcz11_1 : wr.cell? ⟨gb135, 1, none⟩ = some (.int .i64 a0_1) := (blk_cell BK135.out 1).trans rfl
       have hcz11_2 : wr.cell? ⟨gb135, 2, none⟩ = some (.slice A0_2 l0_2.length c0_2) := (blk_cell BK135.out 2).trans rfl
       have hfz11_0 := blk_frozen BK135.out 0
       have hfz11_1 := blk_frozen BK135.out 1
       have hfz11_2 := blk_frozen BK135.out 2
       have p136 : 0 ≤ (x7_1 : Int) := of_decide_eq_true (by first | (with_reducible assumption) | assumption)
       have q136 : x7_1 < (l0_2.length : Int) := of_decide_eq_true (by first | (with_reducible assumption) | assumption)
       obtain ⟨ad136, A136_2, c136_2, e136, hx136_0, hx136_1, hx136_2, hl136_2, hi136_2⟩ := at_T31 HR0_2.out x7_1 p136 q136
       cases e136
       replace hx136_0 := (HB.out.cell (World.block_lt_of_cell? w _ hx136_0)).trans hx136_0
       replace hx136_1 := (HB.out.cell (World.block_lt_of_cell? w _ hx136_1)).trans hx136_1
       replace hx136_2 := (HB.out.cell (World.block_lt_of_cell? w _ hx136_2)).trans hx136_2
       have HR136_2 := Aside0.mk hi136_2
       have HC136_2 := Aside0.mk hl136_2
       clear hi136_2 hl136_2
       replace p136 := eq_true p136
       replace q136 := eq_true q136
       go_wp2_with (first | ((with_reducible refine gate_callee (f := 111) rfl ?_); refine goesL_ (some 31) rfl rfl Try.func111 (by kernel_rfl) rfl #[.agg #[.int .i64 ((rd_T31 l0_2 x7_1).f0), .int .i64 ((rd_T31 l0_2 x7_1).f1), .slice A136_2 ((rd_T31 l0_2 x7_1).f2).length c136_2], .int .i64 x1_1, .int .i64 (wrap64 (a2 + 1))] rfl (by (try simp only [List.map_toArray, List.map_cons, List.map_nil]); first | done | rfl | (simp only [List.length_drop, List.length_take]; rfl)) ?_; (with_reducible refine (ih k1 (by have := HK1.out; omega) ((rd_T31 l0_2 x7_1).f0) ((rd_T31 l0_2 x7_1).f1) _ _ ((rd_T31 l0_2 x7_1).f2) x1_1 (wrap64 (a2 + 1)) t137 _ ?side1 ?side2 A10.out).mono ?_); (case side1 => repeat (first | exact (Kd.C_below HR136_2.out HB.out) | (with_reducible refine Kd.C_alloc ?_ _) | (with_reducible refine Kd.C_drewN ?_ _) | (with_reducible refine Kd.C_drew ?_))); (case side2 => exact HC136_2.out); rintro e w12 ⟨rfl, hb⟩; refine ⟨_, rfl, ?_⟩; have n0_ := Aside0.mk (blk_below (g := gb135) (o := .cells #[.int .i64 a0_0, .int .i64 a0_1, .slice (some ad136) l0_2.length c0_2] 31 (0, 0)) (by (with_reducible repeat (first | refine blk_drewN ?_ _ | refine blk_drew ?_ | refine blk_alloc ?_ _)); exact BK135.out) hb); have n1_ := Aside0.mk (below_step (by repeat (first | (with_reducible first | exact HB.out | apply below_alloc | apply pw_below_drewN | apply below_drew1 | refine below_set ?_ GE135.out) | exact HB.out)) hb); clear BK135; clear HB; have BK135 := n0_; have HB := n1_; clear n0_ n1_; (try clear hb); (try clear hb2); (try clear hk); (try clear hi)))
       go_roundg k1
       case measure => have := HK1.out; omega
       case rel => exact ⟨(t137), (wrap64 (x7_1 + 1)), (by first | rfl | (simp; done) | (simp [*]; done)), (by first | rfl | (simp; done) | (simp [*]; done)), H', ⟨by have := HK1.out; omega⟩, ⟨by (with_reducible repeat (first | refine blk_drewN ?_ _ | refine blk_drew ?_ | refine blk_alloc ?_ _)); exact BK135.out⟩, ⟨by repeat (first | (with_reducible first | exact HB.out | apply below_alloc | apply pw_below_drewN | apply below_drew1 | refine below_set ?_ GE135.out) | exact HB.out)⟩⟩
      ·rw [if_neg c9] at H
       exact absurd H (by simp)
     ·rw [if_neg c8] at H
      have c8b0 : decide (0 ≤ x1_1) = false := decide_eq_false c8
      clear c8
      obtain rfl := Option.some.inj H
      have hcz13_0 : wr.cell? ⟨gb135, 0, none⟩ = some (.int .i64 a0_0) := (blk_cell BK135.out 0).trans rfl
      have hcz13_1 : wr.cell? ⟨gb135, 1, none⟩ = some (.int .i64 a0_1) := (blk_cell BK135.out 1).trans rfl
      have hcz13_2 : wr.cell? ⟨gb135, 2, none⟩ = some (.slice A0_2 l0_2.length c0_2) := (blk_cell BK135.out 2).trans rfl
      have hfz13_0 := blk_frozen BK135.out 0
      have hfz13_1 := blk_frozen BK135.out 1
      have hfz13_2 := blk_frozen BK135.out 2
      go_wp2
      go_ret
      exact ⟨by first | rfl | (simp [errW_none, errW_some] <;> rfl) | (simp [*, errW_none, errW_some] <;> rfl), by repeat (first | (with_reducible first | exact HB.out | apply below_alloc | apply pw_below_drewN | apply below_drew1 | refine below_set ?_ GE135.out) | exact HB.out)⟩
    ·rw [if_neg c7] at H
     have c7b0 : decide (x7_1 < (l0_2.length : Int)) = false := decide_eq_false c7
     clear c7
     obtain rfl := Option.some.inj H
     have hcz14_0 : wr.cell? ⟨gb135, 0, none⟩ = some (.int .i64 a0_0) := (blk_cell BK135.out 0).trans rfl
     have hcz14_1 : wr.cell? ⟨gb135, 1, none⟩ = some (.int .i64 a0_1) := (blk_cell BK135.out 1).trans rfl
     have hcz14_2 : wr.cell? ⟨gb135, 2, none⟩ = some (.slice A0_2 l0_2.length c0_2) := (blk_cell BK135.out 2).trans rfl
     have hfz14_0 := blk_frozen BK135.out 0
     have hfz14_1 := blk_frozen BK135.out 1
     have hfz14_2 := blk_frozen BK135.out 2
     go_wp2
     go_ret
     exact ⟨by first | rfl | (simp [errW_none, errW_some] <;> rfl) | (simp [*, errW_none, errW_some] <;> rfl), by repeat (first | (with_reducible first | exact HB.out | apply below_alloc | apply pw_below_drewN | apply below_drew1 | refine below_set ?_ GE135.out) | exact HB.out)⟩
def spec_l01In.f (a0 : Int) (a1 : Int) (a2 : Int) : Option (Bool) := if a0 ≥ a1 then (some (decide (a0 ≤ a2))) else (some false)
set_option maxHeartbeats 8000000 in
set_option maxRecDepth 100000 in
theorem spec_l01In.calls (a0 : Int) (a1 : Int) (a2 : Int) (r : Bool) (w : World) (h : spec_l01In.f a0 a1 a2 = some r) :
  Calls Try.prog 76 #[.int .i64 a0, .int .i64 a1, .int .i64 a2] w fun e w' => e = .returned (.bool r) ∧ Drawn0 w w' := by
 have H : (if a0 ≥ a1 then (some (decide (a0 ≤ a2))) else (some false)) = some r := h
 clear h
 by_cases c4 : a0 ≥ a1
 ·rw [if_pos c4] at H
  have c4b0 : decide (a1 ≤ a0) = true := decide_eq_true c4
  clear c4
  obtain rfl := Option.some.inj H
  go_enter Try.func76, Try.ntmps76
  go_wp2
  go_ret
  exact ⟨by first | rfl | (simp; done) | (simp [*]; done), by repeat (first | exact Drawn0.refl _ | apply Drawn0.step)⟩
 ·rw [if_neg c4] at H
  have c4b0 : decide (a1 ≤ a0) = false := decide_eq_false c4
  clear c4
  obtain rfl := Option.some.inj H
  go_enter Try.func76, Try.ntmps76
  go_wp2
  go_ret
  exact ⟨by first | rfl | (simp; done) | (simp [*]; done), by repeat (first | exact Drawn0.refl _ | apply Drawn0.step)⟩
mutual
/-- whether an expression's nodes are right, their count and depth aside -/
def rightE : S31 → Bool
 | ⟨kind, n, kids⟩ => ((kids.length : Int) == kidsM kind) && (numB kind n && rightEs kids)
def rightEs : List (S31) → Bool
 | [] => true
 | x :: r => rightE x && rightEs r
end
theorem rightEs_all (l : List (S31)) : rightEs l = l.all rightE := by
 induction l with
 | nil => rfl
 | cons x r ih => rw [rightEs, List.all_cons, ih]
theorem rightEs_true (l : List (S31)) (h : ∀ j : Nat, j < l.length → rightE (rd_T31 l (j : Int)) = true) : rightEs l = true := by
 rw [rightEs_all, List.all_eq_true]
 intro x hx
 obtain ⟨j, hj, rfl⟩ := List.getElem_of_mem hx
 have hr : rd_T31 l (j : Int) = l[j] := by unfold rd_T31; simp [List.getD, hj]
 rw [← hr]
 exact h j hj
theorem rightEs_false (l : List (S31)) (j : Nat) (hj : j < l.length) (h : rightE (rd_T31 l (j : Int)) = false) : rightEs l = false := by
 have hr : rd_T31 l (j : Int) = l[j] := by unfold rd_T31; simp [List.getD, hj]
 rw [hr] at h
 cases hb : rightEs l with
 | false => rfl
 | true =>
  rw [rightEs_all, List.all_eq_true] at hb
  rw [hb _ (List.getElem_mem hj)] at h
  cases h
set_option maxHeartbeats 4000000 in
theorem l01In_any (a lo hi : Int) (w : World) : Calls Try.prog 76 #[.int .i64 a, .int .i64 lo, .int .i64 hi] w fun e w' => e = .returned (.bool (decide (lo ≤ a) && decide (a ≤ hi))) ∧ w = w' := by
 by_cases h : lo ≤ a
 ·rw [decide_eq_true h, Bool.true_and]
  go_enter Try.func76, Try.ntmps76
  go_wp2
  go_ret
  exact ⟨rfl, rfl⟩
 ·rw [decide_eq_false h, Bool.false_and]
  go_enter Try.func76, Try.ntmps76
  go_wp2
  go_ret
  exact ⟨rfl, rfl⟩
def SaidR (x : S31) : Prop := ∀ (A2 : Option Addr) (c2 : Nat) (w : World), Kd.C k31 w A2 x.f2.length x.f2 → x.f2.length ≤ c2 →
 Calls Try.prog 112 #[.agg #[.int .i64 x.f0, .int .i64 x.f1, .slice A2 x.f2.length c2]] w fun e w' => e = .returned (.bool (rightE x)) ∧ Below w.heap.size w w'
theorem sz_kidR {kind n : Int} {kids : List (S31)} {d : Nat} (h : SizeOf.sizeOf (⟨kind, n, kids⟩ : S31) < d + 1) (i : Nat) (hi : i < kids.length) : SizeOf.sizeOf (rd_T31 kids (i : Int)) < d := by
 have hr : rd_T31 kids (i : Int) = kids[i] := by unfold rd_T31; simp [List.getD, hi]
 rw [hr]
 have := List.sizeOf_lt_of_mem (List.getElem_mem hi)
 simp at h
 omega
theorem right_leaf {kind n : Int} {kids : List (S31)} (h : kidsM kind = 0) : rightE ⟨kind, n, kids⟩ = (numB kind n && ((kids.length : Int) == 0)) := by
 rw [rightE, h]
 cases kids with
 | nil => simp [rightEs]
 | cons x r =>
  rw [beq_false_of_ne (by simp; omega), Bool.false_and, Bool.and_false]
set_option maxHeartbeats 4000000 in
set_option maxRecDepth 100000 in
theorem right_calls : ∀ (d : Nat) (x : S31), SizeOf.sizeOf x < d → SaidR x := by
 intro d
 induction d with
 | zero => exact fun x h => absurd h (Nat.not_lt_zero _)
 | succ d ih =>
  intro x hxd A2 c2 w hr hc
  obtain ⟨kind, n, kids⟩ := x
  have hkids : ∀ i : Nat, i < kids.length → SaidR (rd_T31 kids (i : Int)) := fun i hi => ih _ (sz_kidR hxd i hi)
  have hB : Below w.heap.size w (w.alloc (.cells #[.int .i64 kind, .int .i64 n, .slice A2 kids.length c2] 31)) := (Below.refl _ _).alloc (Nat.le_refl _) _
  have H := Aside0.mk (And.intro hr (And.intro hc (And.intro hB hkids)))
  clear hr hc hxd ih hkids hB
  by_cases k1 : kind = 1
  ·subst k1
   have hright := Aside0.mk (@right_leaf 1 n kids (by decide))
   cases hn : numB 1 n with
   | false =>
    have hn' : (decide (0 ≤ n) && decide (n ≤ 11)) = false := hn
    have hres : rightE ⟨1, n, kids⟩ = false := by rw [hright.out, hn]; rfl
    clear hn
    rw [hres]
    have hin := l01In_any n 0 11
    rw [hn'] at hin
    clear hn' hres
    go_enter Try.func112, Try.ntmps112
    go_wp2_with (go_at_call 76; refine (hin _).mono ?_; rintro e w' ⟨rfl, rfl⟩)
    go_ret
    exact ⟨rfl, H.out.2.2.1⟩
   | true =>
    have hn' : (decide (0 ≤ n) && decide (n ≤ 11)) = true := hn
    have hres : rightE ⟨1, n, kids⟩ = ((kids.length : Int) == 0) := by rw [hright.out, hn, Bool.true_and]
    clear hn
    rw [hres]
    have hin := l01In_any n 0 11
    rw [hn'] at hin
    clear hn' hres
    go_enter Try.func112, Try.ntmps112
    go_wp2_with (go_at_call 76; refine (hin _).mono ?_; rintro e w' ⟨rfl, rfl⟩)
    go_ret
    exact ⟨rfl, H.out.2.2.1⟩
  by_cases k2 : kind = 2
  ·subst k2
   have hright := Aside0.mk (@right_leaf 2 n kids (by decide))
   cases hn : numB 2 n with
   | false =>
    have hn' : (decide (0 ≤ n) && decide (n ≤ 1)) = false := hn
    have hres : rightE ⟨2, n, kids⟩ = false := by rw [hright.out, hn]; rfl
    clear hn
    rw [hres]
    have hin := l01In_any n 0 1
    rw [hn'] at hin
    clear hn' hres
    go_enter Try.func112, Try.ntmps112
    go_wp2_with (go_at_call 76; refine (hin _).mono ?_; rintro e w' ⟨rfl, rfl⟩)
    go_ret
    exact ⟨rfl, H.out.2.2.1⟩
   | true =>
    have hn' : (decide (0 ≤ n) && decide (n ≤ 1)) = true := hn
    have hres : rightE ⟨2, n, kids⟩ = ((kids.length : Int) == 0) := by rw [hright.out, hn, Bool.true_and]
    clear hn
    rw [hres]
    have hin := l01In_any n 0 1
    rw [hn'] at hin
    clear hn' hres
    go_enter Try.func112, Try.ntmps112
    go_wp2_with (go_at_call 76; refine (hin _).mono ?_; rintro e w' ⟨rfl, rfl⟩)
    go_ret
    exact ⟨rfl, H.out.2.2.1⟩
  by_cases kk3 : kind = 3
  ·subst kk3
   by_cases hn : n = 0
   ·subst hn
    by_cases hm : (kids.length : Int) = 1
    ·have hres : rightE ⟨3, 0, kids⟩ = rightEs kids := by rw [rightE, hm]; rfl
     rw [hres]
     clear hres
     go_enter Try.func112, Try.ntmps112
     go_wp2_with fail
     go_loopw [4] (fun i wr => ∃ k : Nat, k ≤ 1 ∧ i = .int .i64 k ∧ Aside0 (∀ j : Nat, j < k → rightE (rd_T31 kids (j : Int)) = true) ∧ Aside0 (Below (w.alloc (.cells #[.int .i64 3, .int .i64 0, .slice A2 kids.length c2] 31)).heap.size (w.alloc (.cells #[.int .i64 3, .int .i64 0, .slice A2 kids.length c2] 31)) wr)) (fun i _ => 1 - (intOf i).toNat)
     case atStart => exact ⟨0, by omega, rfl, ⟨fun j hj => absurd hj (Nat.not_lt_zero _)⟩, ⟨Below.refl _ _⟩⟩
     case round =>
      obtain ⟨k, hk, rfl, HA, HW⟩ := hrel
      by_cases hlt : k < 1
      ·have hltz : (k : Int) < 1 := by omega
       have hltl : (k : Int) < (kids.length : Int) := by omega
       have hkl : k < kids.length := by omega
       obtain ⟨q1, q2, q3, q4⟩ := H.out
       have hd := Kd.C_below (Kd.C_below q1 q3) HW.out
       have hx2 : wr.cell? ⟨w.heap.size, 2, none⟩ = some (.slice A2 kids.length c2) := (HW.out.cell (p := ⟨w.heap.size, 2, none⟩) (by simp [World.alloc_eq])).trans (by go_simp)
       obtain ⟨ad, A4, c4, ea, hy0, hy1, hy2, hl4, hd4⟩ := at_T31 hd (k : Int) (by omega) hltl
       cases ea
       rw [Int.toNat_natCast] at hy0 hy1 hy2
       have hcall := q4 k hkl A4 c4 wr hd4 hl4
       clear q1 q2 q3 q4 hd hd4 hl4
       cases hq : rightE (rd_T31 kids (k : Int)) with
       | false =>
        rw [hq] at hcall
        have HF := Aside0.mk (rightEs_false kids k hkl hq)
        clear hq
        go_wp2_with (go_at_call 112; refine hcall.mono ?_; rintro e w' ⟨rfl, hb⟩)
        go_ret
        rw [HF.out]
        exact ⟨rfl, H.out.2.2.1.trans ((HW.out.trans (hb.mono HW.out.size)).mono H.out.2.2.1.size)⟩
       | true =>
        rw [hq] at hcall
        have HT := Aside0.mk hq
        clear hq
        go_wp2_with (go_at_call 112; refine hcall.mono ?_; rintro e w' ⟨rfl, hb⟩)
        go_roundw
        case rel =>
         refine ⟨k + 1, by omega, by go_num, ⟨fun j hj => ?_⟩, ⟨HW.out.trans (hb.mono HW.out.size)⟩⟩
         by_cases e : j = k
         ·subst e
          exact HT.out
         ·exact HA.out j (by omega)
        case measure => simp [intOf]; omega
      ·have hk' : k = 1 := by omega
       subst hk'
       have HE := Aside0.mk (rightEs_true kids (fun j hj => HA.out j (by omega)))
       go_wp2
       go_ret
       rw [HE.out]
       exact ⟨rfl, H.out.2.2.1.trans (HW.out.mono H.out.2.2.1.size)⟩
    ·have hres : rightE ⟨3, 0, kids⟩ = false := by rw [rightE, show kidsM 3 = 1 from rfl, beq_false_of_ne hm]; rfl
     rw [hres]
     clear hres
     go_enter Try.func112, Try.ntmps112
     go_wp2
     go_ret
     exact ⟨rfl, H.out.2.2.1⟩
   ·have hres : rightE ⟨3, n, kids⟩ = false := by rw [rightE, show numB 3 n = (n == 0) from rfl, beq_false_of_ne hn, Bool.false_and, Bool.and_false]
    rw [hres]
    clear hres
    go_enter Try.func112, Try.ntmps112
    go_wp2
    go_ret
    exact ⟨rfl, H.out.2.2.1⟩
  by_cases kk4 : kind = 4
  ·subst kk4
   by_cases hn : n = 0
   ·subst hn
    by_cases hm : (kids.length : Int) = 2
    ·have hres : rightE ⟨4, 0, kids⟩ = rightEs kids := by rw [rightE, hm]; rfl
     rw [hres]
     clear hres
     go_enter Try.func112, Try.ntmps112
     go_wp2_with fail
     go_loopw [4] (fun i wr => ∃ k : Nat, k ≤ 2 ∧ i = .int .i64 k ∧ Aside0 (∀ j : Nat, j < k → rightE (rd_T31 kids (j : Int)) = true) ∧ Aside0 (Below (w.alloc (.cells #[.int .i64 4, .int .i64 0, .slice A2 kids.length c2] 31)).heap.size (w.alloc (.cells #[.int .i64 4, .int .i64 0, .slice A2 kids.length c2] 31)) wr)) (fun i _ => 2 - (intOf i).toNat)
     case atStart => exact ⟨0, by omega, rfl, ⟨fun j hj => absurd hj (Nat.not_lt_zero _)⟩, ⟨Below.refl _ _⟩⟩
     case round =>
      obtain ⟨k, hk, rfl, HA, HW⟩ := hrel
      by_cases hlt : k < 2
      ·have hltz : (k : Int) < 2 := by omega
       have hltl : (k : Int) < (kids.length : Int) := by omega
       have hkl : k < kids.length := by omega
       obtain ⟨q1, q2, q3, q4⟩ := H.out
       have hd := Kd.C_below (Kd.C_below q1 q3) HW.out
       have hx2 : wr.cell? ⟨w.heap.size, 2, none⟩ = some (.slice A2 kids.length c2) := (HW.out.cell (p := ⟨w.heap.size, 2, none⟩) (by simp [World.alloc_eq])).trans (by go_simp)
       obtain ⟨ad, A4, c4, ea, hy0, hy1, hy2, hl4, hd4⟩ := at_T31 hd (k : Int) (by omega) hltl
       cases ea
       rw [Int.toNat_natCast] at hy0 hy1 hy2
       have hcall := q4 k hkl A4 c4 wr hd4 hl4
       clear q1 q2 q3 q4 hd hd4 hl4
       cases hq : rightE (rd_T31 kids (k : Int)) with
       | false =>
        rw [hq] at hcall
        have HF := Aside0.mk (rightEs_false kids k hkl hq)
        clear hq
        go_wp2_with (go_at_call 112; refine hcall.mono ?_; rintro e w' ⟨rfl, hb⟩)
        go_ret
        rw [HF.out]
        exact ⟨rfl, H.out.2.2.1.trans ((HW.out.trans (hb.mono HW.out.size)).mono H.out.2.2.1.size)⟩
       | true =>
        rw [hq] at hcall
        have HT := Aside0.mk hq
        clear hq
        go_wp2_with (go_at_call 112; refine hcall.mono ?_; rintro e w' ⟨rfl, hb⟩)
        go_roundw
        case rel =>
         refine ⟨k + 1, by omega, by go_num, ⟨fun j hj => ?_⟩, ⟨HW.out.trans (hb.mono HW.out.size)⟩⟩
         by_cases e : j = k
         ·subst e
          exact HT.out
         ·exact HA.out j (by omega)
        case measure => simp [intOf]; omega
      ·have hk' : k = 2 := by omega
       subst hk'
       have HE := Aside0.mk (rightEs_true kids (fun j hj => HA.out j (by omega)))
       go_wp2
       go_ret
       rw [HE.out]
       exact ⟨rfl, H.out.2.2.1.trans (HW.out.mono H.out.2.2.1.size)⟩
    ·have hres : rightE ⟨4, 0, kids⟩ = false := by rw [rightE, show kidsM 4 = 2 from rfl, beq_false_of_ne hm]; rfl
     rw [hres]
     clear hres
     go_enter Try.func112, Try.ntmps112
     go_wp2
     go_ret
     exact ⟨rfl, H.out.2.2.1⟩
   ·have hres : rightE ⟨4, n, kids⟩ = false := by rw [rightE, show numB 4 n = (n == 0) from rfl, beq_false_of_ne hn, Bool.false_and, Bool.and_false]
    rw [hres]
    clear hres
    go_enter Try.func112, Try.ntmps112
    go_wp2
    go_ret
    exact ⟨rfl, H.out.2.2.1⟩
  by_cases k5 : kind = 5
  ·subst k5
   by_cases hn : n = 0
   ·subst hn
    by_cases hm : (kids.length : Int) = 2
    ·have hres : rightE ⟨5, 0, kids⟩ = rightEs kids := by rw [rightE, hm]; rfl
     rw [hres]
     clear hres
     go_enter Try.func112, Try.ntmps112
     go_wp2_with fail
     go_loopw [4] (fun i wr => ∃ k : Nat, k ≤ 2 ∧ i = .int .i64 k ∧ Aside0 (∀ j : Nat, j < k → rightE (rd_T31 kids (j : Int)) = true) ∧ Aside0 (Below (w.alloc (.cells #[.int .i64 5, .int .i64 0, .slice A2 kids.length c2] 31)).heap.size (w.alloc (.cells #[.int .i64 5, .int .i64 0, .slice A2 kids.length c2] 31)) wr)) (fun i _ => 2 - (intOf i).toNat)
     case atStart => exact ⟨0, by omega, rfl, ⟨fun j hj => absurd hj (Nat.not_lt_zero _)⟩, ⟨Below.refl _ _⟩⟩
     case round =>
      obtain ⟨k, hk, rfl, HA, HW⟩ := hrel
      by_cases hlt : k < 2
      ·have hltz : (k : Int) < 2 := by omega
       have hltl : (k : Int) < (kids.length : Int) := by omega
       have hkl : k < kids.length := by omega
       obtain ⟨q1, q2, q3, q4⟩ := H.out
       have hd := Kd.C_below (Kd.C_below q1 q3) HW.out
       have hx2 : wr.cell? ⟨w.heap.size, 2, none⟩ = some (.slice A2 kids.length c2) := (HW.out.cell (p := ⟨w.heap.size, 2, none⟩) (by simp [World.alloc_eq])).trans (by go_simp)
       obtain ⟨ad, A4, c4, ea, hy0, hy1, hy2, hl4, hd4⟩ := at_T31 hd (k : Int) (by omega) hltl
       cases ea
       rw [Int.toNat_natCast] at hy0 hy1 hy2
       have hcall := q4 k hkl A4 c4 wr hd4 hl4
       clear q1 q2 q3 q4 hd hd4 hl4
       cases hq : rightE (rd_T31 kids (k : Int)) with
       | false =>
        rw [hq] at hcall
        have HF := Aside0.mk (rightEs_false kids k hkl hq)
        clear hq
        go_wp2_with (go_at_call 112; refine hcall.mono ?_; rintro e w' ⟨rfl, hb⟩)
        go_ret
        rw [HF.out]
        exact ⟨rfl, H.out.2.2.1.trans ((HW.out.trans (hb.mono HW.out.size)).mono H.out.2.2.1.size)⟩
       | true =>
        rw [hq] at hcall
        have HT := Aside0.mk hq
        clear hq
        go_wp2_with (go_at_call 112; refine hcall.mono ?_; rintro e w' ⟨rfl, hb⟩)
        go_roundw
        case rel =>
         refine ⟨k + 1, by omega, by go_num, ⟨fun j hj => ?_⟩, ⟨HW.out.trans (hb.mono HW.out.size)⟩⟩
         by_cases e : j = k
         ·subst e
          exact HT.out
         ·exact HA.out j (by omega)
        case measure => simp [intOf]; omega
      ·have hk' : k = 2 := by omega
       subst hk'
       have HE := Aside0.mk (rightEs_true kids (fun j hj => HA.out j (by omega)))
       go_wp2
       go_ret
       rw [HE.out]
       exact ⟨rfl, H.out.2.2.1.trans (HW.out.mono H.out.2.2.1.size)⟩
    ·have hres : rightE ⟨5, 0, kids⟩ = false := by rw [rightE, show kidsM 5 = 2 from rfl, beq_false_of_ne hm]; rfl
     rw [hres]
     clear hres
     go_enter Try.func112, Try.ntmps112
     go_wp2
     go_ret
     exact ⟨rfl, H.out.2.2.1⟩
   ·have hres : rightE ⟨5, n, kids⟩ = false := by rw [rightE, show numB 5 n = (n == 0) from rfl, beq_false_of_ne hn, Bool.false_and, Bool.and_false]
    rw [hres]
    clear hres
    go_enter Try.func112, Try.ntmps112
    go_wp2
    go_ret
    exact ⟨rfl, H.out.2.2.1⟩
  by_cases k6 : kind = 6
  ·subst k6
   by_cases hn : n = 0
   ·subst hn
    by_cases hm : (kids.length : Int) = 2
    ·have hres : rightE ⟨6, 0, kids⟩ = rightEs kids := by rw [rightE, hm]; rfl
     rw [hres]
     clear hres
     go_enter Try.func112, Try.ntmps112
     go_wp2_with fail
     go_loopw [4] (fun i wr => ∃ k : Nat, k ≤ 2 ∧ i = .int .i64 k ∧ Aside0 (∀ j : Nat, j < k → rightE (rd_T31 kids (j : Int)) = true) ∧ Aside0 (Below (w.alloc (.cells #[.int .i64 6, .int .i64 0, .slice A2 kids.length c2] 31)).heap.size (w.alloc (.cells #[.int .i64 6, .int .i64 0, .slice A2 kids.length c2] 31)) wr)) (fun i _ => 2 - (intOf i).toNat)
     case atStart => exact ⟨0, by omega, rfl, ⟨fun j hj => absurd hj (Nat.not_lt_zero _)⟩, ⟨Below.refl _ _⟩⟩
     case round =>
      obtain ⟨k, hk, rfl, HA, HW⟩ := hrel
      by_cases hlt : k < 2
      ·have hltz : (k : Int) < 2 := by omega
       have hltl : (k : Int) < (kids.length : Int) := by omega
       have hkl : k < kids.length := by omega
       obtain ⟨q1, q2, q3, q4⟩ := H.out
       have hd := Kd.C_below (Kd.C_below q1 q3) HW.out
       have hx2 : wr.cell? ⟨w.heap.size, 2, none⟩ = some (.slice A2 kids.length c2) := (HW.out.cell (p := ⟨w.heap.size, 2, none⟩) (by simp [World.alloc_eq])).trans (by go_simp)
       obtain ⟨ad, A4, c4, ea, hy0, hy1, hy2, hl4, hd4⟩ := at_T31 hd (k : Int) (by omega) hltl
       cases ea
       rw [Int.toNat_natCast] at hy0 hy1 hy2
       have hcall := q4 k hkl A4 c4 wr hd4 hl4
       clear q1 q2 q3 q4 hd hd4 hl4
       cases hq : rightE (rd_T31 kids (k : Int)) with
       | false =>
        rw [hq] at hcall
        have HF := Aside0.mk (rightEs_false kids k hkl hq)
        clear hq
        go_wp2_with (go_at_call 112; refine hcall.mono ?_; rintro e w' ⟨rfl, hb⟩)
        go_ret
        rw [HF.out]
        exact ⟨rfl, H.out.2.2.1.trans ((HW.out.trans (hb.mono HW.out.size)).mono H.out.2.2.1.size)⟩
       | true =>
        rw [hq] at hcall
        have HT := Aside0.mk hq
        clear hq
        go_wp2_with (go_at_call 112; refine hcall.mono ?_; rintro e w' ⟨rfl, hb⟩)
        go_roundw
        case rel =>
         refine ⟨k + 1, by omega, by go_num, ⟨fun j hj => ?_⟩, ⟨HW.out.trans (hb.mono HW.out.size)⟩⟩
         by_cases e : j = k
         ·subst e
          exact HT.out
         ·exact HA.out j (by omega)
        case measure => simp [intOf]; omega
      ·have hk' : k = 2 := by omega
       subst hk'
       have HE := Aside0.mk (rightEs_true kids (fun j hj => HA.out j (by omega)))
       go_wp2
       go_ret
       rw [HE.out]
       exact ⟨rfl, H.out.2.2.1.trans (HW.out.mono H.out.2.2.1.size)⟩
    ·have hres : rightE ⟨6, 0, kids⟩ = false := by rw [rightE, show kidsM 6 = 2 from rfl, beq_false_of_ne hm]; rfl
     rw [hres]
     clear hres
     go_enter Try.func112, Try.ntmps112
     go_wp2
     go_ret
     exact ⟨rfl, H.out.2.2.1⟩
   ·have hres : rightE ⟨6, n, kids⟩ = false := by rw [rightE, show numB 6 n = (n == 0) from rfl, beq_false_of_ne hn, Bool.false_and, Bool.and_false]
    rw [hres]
    clear hres
    go_enter Try.func112, Try.ntmps112
    go_wp2
    go_ret
    exact ⟨rfl, H.out.2.2.1⟩
  by_cases k7 : kind = 7
  ·subst k7
   by_cases hn : n = 0
   ·subst hn
    by_cases hm : (kids.length : Int) = 3
    ·have hres : rightE ⟨7, 0, kids⟩ = rightEs kids := by rw [rightE, hm]; rfl
     rw [hres]
     clear hres
     go_enter Try.func112, Try.ntmps112
     go_wp2_with fail
     go_loopw [4] (fun i wr => ∃ k : Nat, k ≤ 3 ∧ i = .int .i64 k ∧ Aside0 (∀ j : Nat, j < k → rightE (rd_T31 kids (j : Int)) = true) ∧ Aside0 (Below (w.alloc (.cells #[.int .i64 7, .int .i64 0, .slice A2 kids.length c2] 31)).heap.size (w.alloc (.cells #[.int .i64 7, .int .i64 0, .slice A2 kids.length c2] 31)) wr)) (fun i _ => 3 - (intOf i).toNat)
     case atStart => exact ⟨0, by omega, rfl, ⟨fun j hj => absurd hj (Nat.not_lt_zero _)⟩, ⟨Below.refl _ _⟩⟩
     case round =>
      obtain ⟨k, hk, rfl, HA, HW⟩ := hrel
      by_cases hlt : k < 3
      ·have hltz : (k : Int) < 3 := by omega
       have hltl : (k : Int) < (kids.length : Int) := by omega
       have hkl : k < kids.length := by omega
       obtain ⟨q1, q2, q3, q4⟩ := H.out
       have hd := Kd.C_below (Kd.C_below q1 q3) HW.out
       have hx2 : wr.cell? ⟨w.heap.size, 2, none⟩ = some (.slice A2 kids.length c2) := (HW.out.cell (p := ⟨w.heap.size, 2, none⟩) (by simp [World.alloc_eq])).trans (by go_simp)
       obtain ⟨ad, A4, c4, ea, hy0, hy1, hy2, hl4, hd4⟩ := at_T31 hd (k : Int) (by omega) hltl
       cases ea
       rw [Int.toNat_natCast] at hy0 hy1 hy2
       have hcall := q4 k hkl A4 c4 wr hd4 hl4
       clear q1 q2 q3 q4 hd hd4 hl4
       cases hq : rightE (rd_T31 kids (k : Int)) with
       | false =>
        rw [hq] at hcall
        have HF := Aside0.mk (rightEs_false kids k hkl hq)
        clear hq
        go_wp2_with (go_at_call 112; refine hcall.mono ?_; rintro e w' ⟨rfl, hb⟩)
        go_ret
        rw [HF.out]
        exact ⟨rfl, H.out.2.2.1.trans ((HW.out.trans (hb.mono HW.out.size)).mono H.out.2.2.1.size)⟩
       | true =>
        rw [hq] at hcall
        have HT := Aside0.mk hq
        clear hq
        go_wp2_with (go_at_call 112; refine hcall.mono ?_; rintro e w' ⟨rfl, hb⟩)
        go_roundw
        case rel =>
         refine ⟨k + 1, by omega, by go_num, ⟨fun j hj => ?_⟩, ⟨HW.out.trans (hb.mono HW.out.size)⟩⟩
         by_cases e : j = k
         ·subst e
          exact HT.out
         ·exact HA.out j (by omega)
        case measure => simp [intOf]; omega
      ·have hk' : k = 3 := by omega
       subst hk'
       have HE := Aside0.mk (rightEs_true kids (fun j hj => HA.out j (by omega)))
       go_wp2
       go_ret
       rw [HE.out]
       exact ⟨rfl, H.out.2.2.1.trans (HW.out.mono H.out.2.2.1.size)⟩
    ·have hres : rightE ⟨7, 0, kids⟩ = false := by rw [rightE, show kidsM 7 = 3 from rfl, beq_false_of_ne hm]; rfl
     rw [hres]
     clear hres
     go_enter Try.func112, Try.ntmps112
     go_wp2
     go_ret
     exact ⟨rfl, H.out.2.2.1⟩
   ·have hres : rightE ⟨7, n, kids⟩ = false := by rw [rightE, show numB 7 n = (n == 0) from rfl, beq_false_of_ne hn, Bool.false_and, Bool.and_false]
    rw [hres]
    clear hres
    go_enter Try.func112, Try.ntmps112
    go_wp2
    go_ret
    exact ⟨rfl, H.out.2.2.1⟩
  have hres : rightE ⟨kind, n, kids⟩ = false := by
   rw [rightE, show kidsM kind = -1 by unfold kidsM; rw [if_neg k1, if_neg k2, if_neg kk3, if_neg kk4, if_neg k5, if_neg k6, if_neg k7], beq_false_of_ne (by omega)]
   rfl
  rw [hres]
  clear hres
  go_enter Try.func112, Try.ntmps112
  go_wp2
  go_ret
  exact ⟨rfl, H.out.2.2.1⟩
def spec_l04Right.f (a0_0 a0_1 : Int) (l0_2 : List (S31)) : Option Bool := some (rightE ⟨a0_0, a0_1, l0_2⟩)
theorem spec_l04Right.calls (a0_0 : Int) (a0_1 : Int) (A0_2 : Option Addr) (c0_2 : Nat) (l0_2 : List (S31)) (r : Bool) (w : World) (hr0_2 : Kd.C k31 w A0_2 l0_2.length l0_2) (hc0_2 : l0_2.length ≤ c0_2) (h : spec_l04Right.f a0_0 a0_1 l0_2 = some r) :
  Calls Try.prog 112 #[.agg #[.int .i64 a0_0, .int .i64 a0_1, .slice A0_2 l0_2.length c0_2]] w fun e w' => e = .returned (.bool r) ∧ Below w.heap.size w w' := by
 obtain rfl := Option.some.inj h
 exact right_calls _ ⟨a0_0, a0_1, l0_2⟩ (Nat.lt_succ_self _) A0_2 c0_2 w hr0_2 hc0_2
def spec_ExOK.f (k : Nat) (a0_0 : Int) (a0_1 : Int) (l0_2 : List (S31)) : Option (Bool) := (spec_l04Left.f k a0_0 a0_1 l0_2 400 1).bind fun t139 => (if t139 ≥ 0 then ((spec_l04Right.f a0_0 a0_1 l0_2).bind fun t140 => (some t140)) else (some false))
set_option maxHeartbeats 8000000 in
set_option maxRecDepth 100000 in
theorem spec_ExOK.calls (k : Nat) (a0_0 : Int) (a0_1 : Int) (A0_2 : Option Addr) (c0_2 : Nat) (l0_2 : List (S31)) (r : Bool) (w : World) (hr0_2 : Kd.C k31 w A0_2 l0_2.length l0_2) (hc0_2 : l0_2.length ≤ c0_2) (h : spec_ExOK.f k a0_0 a0_1 l0_2 = some r) :
  Calls Try.prog 57 #[.agg #[.int .i64 a0_0, .int .i64 a0_1, .slice A0_2 l0_2.length c0_2]] w fun e w' => e = .returned (.bool r) ∧ Below w.heap.size w w' := by
 have hu31 := Try.underlying31
 have HR0_2 := Aside0.mk hr0_2
 have HC0_2 := Aside0.mk hc0_2
 clear hr0_2 hc0_2
 have HB := Aside0.mk (Below.refl w.heap.size w)
 have H : ((spec_l04Left.f k a0_0 a0_1 l0_2 400 1).bind fun t139 => (if t139 ≥ 0 then ((spec_l04Right.f a0_0 a0_1 l0_2).bind fun t140 => (some t140)) else (some false))) = some r := h
 clear h
 replace H := Option.bind_eq_some_iff.mp H
 obtain ⟨t139, A20, H⟩ := H
 replace H : (if t139 ≥ 0 then ((spec_l04Right.f a0_0 a0_1 l0_2).bind fun t140 => (some t140)) else (some false)) = some r := H
 have A2 := Aside0.mk A20
 clear A20
 by_cases c3 : t139 ≥ 0
 ·rw [if_pos c3] at H
  have c3b0 : decide (0 ≤ t139) = true := decide_eq_true c3
  clear c3
  replace H := Option.bind_eq_some_iff.mp H
  obtain ⟨t140, A40, H⟩ := H
  replace H : (some t140) = some r := H
  have A4 := Aside0.mk A40
  clear A40
  obtain rfl := Option.some.inj H
  go_enter Try.func57, Try.ntmps57
  go_wp2_with (first | ((with_reducible refine gate_dst (N := 1) rfl ?_); refine box_event ?hg (N := 1) ?hd (cs := #[.int .i64 a0_0, .int .i64 a0_1, .slice A0_2 l0_2.length c0_2]) (t := 31) ?hr ?_; (case hd => rfl); (case hg => rfl); (case hr => first | (go_simp; done) | (go_simp; rfl)); intro gb138 hg w5 hbox hb; have n0_ := Aside0.mk (below_step (by repeat (first | (with_reducible first | exact HB.out | apply below_alloc | apply pw_below_drewN | apply below_drew1) | exact HB.out)) hb); have n1_ := Aside0.mk (hbox); have n2_ := Aside0.mk ((by rw [hg]; exact (below_size (by repeat (first | (with_reducible first | exact HB.out | apply below_alloc | apply pw_below_drewN | apply below_drew1) | exact HB.out))) : w.heap.size ≤ gb138)); have n3_ := Aside0.mk ((by rw [hg]; exact (below_size (by repeat (first | (with_reducible first | exact HB.out | apply below_alloc | apply pw_below_drewN | apply below_drew1) | exact HB.out))) : w.heap.size ≤ gb138)); clear HB; have HB := n0_; have BK138 := n1_; have GW138 := n2_; have GE138 := n3_; clear n0_ n1_ n2_ n3_; clear hb hbox hg; have hcz6_0 : w5.cell? ⟨gb138, 0, none⟩ = some (.int .i64 a0_0) := (blk_cell BK138.out 0).trans rfl; have hcz6_1 : w5.cell? ⟨gb138, 1, none⟩ = some (.int .i64 a0_1) := (blk_cell BK138.out 1).trans rfl; have hcz6_2 : w5.cell? ⟨gb138, 2, none⟩ = some (.slice A0_2 l0_2.length c0_2) := (blk_cell BK138.out 2).trans rfl; have hfz6_0 := blk_frozen BK138.out 0; have hfz6_1 := blk_frozen BK138.out 1; have hfz6_2 := blk_frozen BK138.out 2) | ((with_reducible refine gate_callee (f := 111) rfl ?_); refine goesL_ (some 4) rfl rfl Try.func111 (by kernel_rfl) rfl #[.agg #[.int .i64 a0_0, .int .i64 a0_1, .slice A0_2 l0_2.length c0_2], .int .i64 400, .int .i64 1] rfl (by (try simp only [List.map_toArray, List.map_cons, List.map_nil]); first | done | rfl | (simp only [List.length_drop, List.length_take]; rfl)) ?_; (with_reducible refine (spec_l04Left.calls k a0_0 a0_1 _ _ l0_2 400 1 t139 _ ?side1 ?side2 A2.out).mono ?_); (case side1 => repeat (first | exact (Kd.C_below HR0_2.out HB.out) | (with_reducible refine Kd.C_alloc ?_ _) | (with_reducible refine Kd.C_drewN ?_ _) | (with_reducible refine Kd.C_drew ?_))); (case side2 => exact HC0_2.out); rintro e w7 ⟨rfl, hb⟩; refine ⟨_, rfl, ?_⟩; have n0_ := Aside0.mk (blk_below (g := gb138) (o := .cells #[.int .i64 a0_0, .int .i64 a0_1, .slice A0_2 l0_2.length c0_2] 31 (0, 0)) (by (with_reducible repeat (first | refine blk_drewN ?_ _ | refine blk_drew ?_ | refine blk_alloc ?_ _)); exact BK138.out) hb); have n1_ := Aside0.mk (below_step (by repeat (first | (with_reducible first | exact HB.out | apply below_alloc | apply pw_below_drewN | apply below_drew1 | refine below_set ?_ GE138.out) | exact HB.out)) hb); clear BK138; clear HB; have BK138 := n0_; have HB := n1_; clear n0_ n1_; (try clear hb); (try clear hb2); (try clear hk); (try clear hi); have hcz8_0 : w7.cell? ⟨gb138, 0, none⟩ = some (.int .i64 a0_0) := (blk_cell BK138.out 0).trans rfl; have hcz8_1 : w7.cell? ⟨gb138, 1, none⟩ = some (.int .i64 a0_1) := (blk_cell BK138.out 1).trans rfl; have hcz8_2 : w7.cell? ⟨gb138, 2, none⟩ = some (.slice A0_2 l0_2.length c0_2) := (blk_cell BK138.out 2).trans rfl; have hfz8_0 := blk_frozen BK138.out 0; have hfz8_1 := blk_frozen BK138.out 1; have hfz8_2 := blk_frozen BK138.out 2) | (go_at_call 112; (with_reducible refine (spec_l04Right.calls a0_0 a0_1 _ _ l0_2 t140 _ ?side1 ?side2 A4.out).mono ?_); (case side1 => repeat (first | exact (Kd.C_below HR0_2.out HB.out) | (with_reducible refine Kd.C_alloc ?_ _) | (with_reducible refine Kd.C_drewN ?_ _) | (with_reducible refine Kd.C_drew ?_))); (case side2 => exact HC0_2.out); rintro e w9 ⟨rfl, hb⟩; have n0_ := Aside0.mk (blk_below (g := gb138) (o := .cells #[.int .i64 a0_0, .int .i64 a0_1, .slice A0_2 l0_2.length c0_2] 31 (0, 0)) (by (with_reducible repeat (first | refine blk_drewN ?_ _ | refine blk_drew ?_ | refine blk_alloc ?_ _)); exact BK138.out) hb); have n1_ := Aside0.mk (below_step (by repeat (first | (with_reducible first | exact HB.out | apply below_alloc | apply pw_below_drewN | apply below_drew1 | refine below_set ?_ GE138.out) | exact HB.out)) hb); clear BK138; clear HB; have BK138 := n0_; have HB := n1_; clear n0_ n1_; (try clear hb); (try clear hb2); (try clear hk); (try clear hi)))
  go_ret
  exact ⟨by first | rfl | (simp [errW_none, errW_some] <;> rfl) | (simp [*, errW_none, errW_some] <;> rfl), by repeat (first | (with_reducible first | exact HB.out | apply below_alloc | apply pw_below_drewN | apply below_drew1 | refine below_set ?_ GE138.out) | exact HB.out)⟩
 ·rw [if_neg c3] at H
  have c3b0 : decide (0 ≤ t139) = false := decide_eq_false c3
  clear c3
  obtain rfl := Option.some.inj H
  go_enter Try.func57, Try.ntmps57
  go_wp2_with (first | ((with_reducible refine gate_dst (N := 1) rfl ?_); refine box_event ?hg (N := 1) ?hd (cs := #[.int .i64 a0_0, .int .i64 a0_1, .slice A0_2 l0_2.length c0_2]) (t := 31) ?hr ?_; (case hd => rfl); (case hg => rfl); (case hr => first | (go_simp; done) | (go_simp; rfl)); intro gb138 hg w10 hbox hb; have n0_ := Aside0.mk (below_step (by repeat (first | (with_reducible first | exact HB.out | apply below_alloc | apply pw_below_drewN | apply below_drew1) | exact HB.out)) hb); have n1_ := Aside0.mk (hbox); have n2_ := Aside0.mk ((by rw [hg]; exact (below_size (by repeat (first | (with_reducible first | exact HB.out | apply below_alloc | apply pw_below_drewN | apply below_drew1) | exact HB.out))) : w.heap.size ≤ gb138)); have n3_ := Aside0.mk ((by rw [hg]; exact (below_size (by repeat (first | (with_reducible first | exact HB.out | apply below_alloc | apply pw_below_drewN | apply below_drew1) | exact HB.out))) : w.heap.size ≤ gb138)); clear HB; have HB := n0_; have BK138 := n1_; have GW138 := n2_; have GE138 := n3_; clear n0_ n1_ n2_ n3_; clear hb hbox hg; have hcz11_0 : w10.cell? ⟨gb138, 0, none⟩ = some (.int .i64 a0_0) := (blk_cell BK138.out 0).trans rfl; have hcz11_1 : w10.cell? ⟨gb138, 1, none⟩ = some (.int .i64 a0_1) := (blk_cell BK138.out 1).trans rfl; have hcz11_2 : w10.cell? ⟨gb138, 2, none⟩ = some (.slice A0_2 l0_2.length c0_2) := (blk_cell BK138.out 2).trans rfl; have hfz11_0 := blk_frozen BK138.out 0; have hfz11_1 := blk_frozen BK138.out 1; have hfz11_2 := blk_frozen BK138.out 2) | ((with_reducible refine gate_callee (f := 111) rfl ?_); refine goesL_ (some 4) rfl rfl Try.func111 (by kernel_rfl) rfl #[.agg #[.int .i64 a0_0, .int .i64 a0_1, .slice A0_2 l0_2.length c0_2], .int .i64 400, .int .i64 1] rfl (by (try simp only [List.map_toArray, List.map_cons, List.map_nil]); first | done | rfl | (simp only [List.length_drop, List.length_take]; rfl)) ?_; (with_reducible refine (spec_l04Left.calls k a0_0 a0_1 _ _ l0_2 400 1 t139 _ ?side1 ?side2 A2.out).mono ?_); (case side1 => repeat (first | exact (Kd.C_below HR0_2.out HB.out) | (with_reducible refine Kd.C_alloc ?_ _) | (with_reducible refine Kd.C_drewN ?_ _) | (with_reducible refine Kd.C_drew ?_))); (case side2 => exact HC0_2.out); rintro e w12 ⟨rfl, hb⟩; refine ⟨_, rfl, ?_⟩; have n0_ := Aside0.mk (blk_below (g := gb138) (o := .cells #[.int .i64 a0_0, .int .i64 a0_1, .slice A0_2 l0_2.length c0_2] 31 (0, 0)) (by (with_reducible repeat (first | refine blk_drewN ?_ _ | refine blk_drew ?_ | refine blk_alloc ?_ _)); exact BK138.out) hb); have n1_ := Aside0.mk (below_step (by repeat (first | (with_reducible first | exact HB.out | apply below_alloc | apply pw_below_drewN | apply below_drew1 | refine below_set ?_ GE138.out) | exact HB.out)) hb); clear BK138; clear HB; have BK138 := n0_; have HB := n1_; clear n0_ n1_; (try clear hb); (try clear hb2); (try clear hk); (try clear hi)))
  go_ret
  exact ⟨by first | rfl | (simp [errW_none, errW_some] <;> rfl) | (simp [*, errW_none, errW_some] <;> rfl), by repeat (first | (with_reducible first | exact HB.out | apply below_alloc | apply pw_below_drewN | apply below_drew1 | refine below_set ?_ GE138.out) | exact HB.out)⟩
end Go.Proofs.Ytcmkkoggdcjceaa.PFnExactWordBits
end
