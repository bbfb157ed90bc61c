/- FnExactNetText: for every input the law returns true. The texts that this program's session printed and proved for it, those that the proof uses, laid together. Conditions: the form's own reach alone. -/
import Derived.Test.YtgibacfgjmdjdaaDoorDB2
section
namespace Go.Proofs.YtgibacfgjmdjdaaDoor.PFnExactIsStable
open Go.RowKit Go.Proofs.YtgibacfgjmdjdaaDoorW.PrintWords Go.Proofs.YtgibacfgjmdjdaaDoorW.PrintLast Go.Proofs.YtgibacfgjmdjdaaDoorW.PrintMore
attribute [local go_sem] max2_int min2_int max_two min_two max_three min_three max_four min_four   -- for this text's walks alone
set_option linter.unusedVariables false
set_option linter.unusedSimpArgs false
section
variable {P : Program} {ops : Array Oper} {Q : Exit → Act → World → Prop}
structure VP where
 p : (Nat → Prop) → World → Value → Prop
 move : ∀ B B' W W' v, Below W.heap.size W W' → (∀ k, B k → B' k) → (∀ k, B' k → B k ∨ W.heap.size ≤ k) → p B W v → p B' W' v
def VP.eq (u : Value) : VP := ⟨fun _ _ v => v = u, fun _ _ _ _ _ _ _ _ h => h⟩
def VP.any : VP := ⟨fun _ _ _ => True, fun _ _ _ _ _ _ _ _ h => h⟩
def fillA (vals : Nat → Value) : List (Option Tmp) → Act → Act
 | [], a => a
 | none :: r, a => fillA vals r a
 | some N :: r, a => fillA vals r (a.put (some N) (vals N))
theorem put_same {a : Act} {N : Tmp} {v : Value} (h : N < a.tmps.size) : (a.put (some N) v).eval (.tmp N) = v := by
 simp [Act.put, Act.eval, h]
theorem put_other {a : Act} {N M : Tmp} {v : Value} (h : M ≠ N) : (a.put (some N) v).eval (.tmp M) = a.eval (.tmp M) := by
 simp [Act.put, Act.eval, Array.getD_eq_getD_getElem?, Array.getElem?_setIfInBounds, Ne.symm h]
theorem put_size {a : Act} {N : Option Tmp} {v : Value} : (a.put N v).tmps.size = a.tmps.size := by
 cases N <;> simp [Act.put]
theorem put_defers {a : Act} {N : Option Tmp} {v : Value} : (a.put N v).defers = a.defers := by
 cases N <;> rfl
theorem fillA_size {vals : Nat → Value} : ∀ (ds : List (Option Tmp)) (a : Act), (fillA vals ds a).tmps.size = a.tmps.size
 | [], a => rfl
 | none :: r, a => fillA_size r a
 | some N :: r, a => (fillA_size r _).trans put_size
theorem fillA_defers {vals : Nat → Value} : ∀ (ds : List (Option Tmp)) (a : Act), (fillA vals ds a).defers = a.defers
 | [], a => rfl
 | none :: r, a => fillA_defers r a
 | some N :: r, a => (fillA_defers r _).trans put_defers
theorem fillA_other {vals : Nat → Value} {t : Tmp} : ∀ (ds : List (Option Tmp)) (a : Act), some t ∉ ds → (fillA vals ds a).eval (.tmp t) = a.eval (.tmp t)
 | [], a, _ => rfl
 | none :: r, a, h => fillA_other r a (fun q => h (List.mem_cons_of_mem _ q))
 | some N :: r, a, h => (fillA_other r _ (fun q => h (List.mem_cons_of_mem _ q))).trans (put_other (fun q => h (by rw [q]; exact List.mem_cons_self)))
theorem fillA_at {vals : Nat → Value} {t : Tmp} : ∀ (ds : List (Option Tmp)) (a : Act), some t ∈ ds → t < a.tmps.size → (fillA vals ds a).eval (.tmp t) = vals t
 | [], a, h, _ => by cases h
 | none :: r, a, h, hs => fillA_at r a (by rcases List.mem_cons.1 h with h | h; cases h; exact h) hs
 | some N :: r, a, h, hs => by
  by_cases hr : some t ∈ r
  ·exact fillA_at r _ hr (by rw [put_size]; exact hs)
  have : t = N := by
   rcases List.mem_cons.1 h with h | h
   ·exact Option.some.inj h
   exact absurd h hr
  subst this
  exact (fillA_other r _ hr).trans (put_same hs)
theorem fillA_i {vals : Nat → Value} {t n : Nat} {ds : List (Option Tmp)} {a : Act} (h : ds.contains (some t) = true) (hn : a.tmps.size = n) (ht : Nat.blt t n = true) : (fillA vals ds a).eval (.tmp t) = vals t := fillA_at ds a (List.contains_iff_mem.1 h) (by rw [hn]; exact Nat.blt_eq ▸ ht)
theorem act_ext {a b : Act} (h1 : a.tmps.size = b.tmps.size) (h2 : a.defers = b.defers) (h3 : ∀ t, t < a.tmps.size → a.eval (.tmp t) = b.eval (.tmp t)) : a = b := by
 obtain ⟨x, d⟩ := a
 obtain ⟨y, e⟩ := b
 simp only at h1 h2
 subst h2
 congr 1
 refine Array.ext h1 (fun i hi hj => ?_)
 have := h3 i hi
 simpa [Act.eval, Array.getD_eq_getD_getElem?, hi, hj] using this
def okL (L : List (Option Tmp)) (n m : Nat) (T : Bool × List (List Nat × List Nat)) (Bt : List Nat) : Bool :=
 decide (m < L.length) && (L.take m).all (fun N => match N with | some t => decide (t < n) | none => false) && decide (L.take m).Nodup && (waitsOk T.2 Bt && (List.range L.length).all (fun d => decide (d < m) || (List.range d).all (fun i => (Bt.getD d 0).testBit i))) && (List.range L.length).all (fun i => ((T.2.getD i ([], [])).1).all (fun j => decide (j < i)))
def Each (C : Nat → Oper → Prop) : Nat → Nat → List Oper → Prop
 | 0, _, _ => True
 | _, _, [] => True
 | f + 1, k, o :: r => C k o ∧ Each C f (k + 1) r
theorem Each.at {C : Nat → Oper → Prop} : ∀ (f k : Nat) (l : List Oper), Each C f k l → ∀ (i : Nat) (o : Oper), i < f → l[i]? = some o → C (k + i) o
 | 0, k, l, _, i, o, hi, _ => absurd hi (Nat.not_lt_zero _)
 | f + 1, k, [], _, i, o, _, h => by simp at h
 | f + 1, k, x :: r, h, 0, o, _, ho => by
  obtain rfl : x = o := by simpa using ho
  exact h.1
 | f + 1, k, x :: r, h, i + 1, o, hi, ho => by
  have := Each.at f (k + 1) r h.2 i o (by omega) (by simpa using ho)
  rwa [show k + 1 + i = k + (i + 1) by omega] at this
def StepOk (P : Program) (ops : Array Oper) (Q : Exit → Act → World → Prop) (a0 : Act) (w0 : World) (L : List (Option Tmp)) (T : Bool × List (List Nat × List Nat)) (V : List VP) (i : Nat) (o : Oper) : Prop :=
 ∀ (b : Act) (W : World) (B : Nat → Prop), Below w0.heap.size w0 W → (∀ k, B k → w0.heap.size ≤ k ∧ k < W.heap.size) → (∀ (t : Nat) (_ : L.contains (some t) = false := by kernel_rfl), b.eval (.tmp t) = a0.eval (.tmp t)) →
  (∀ (j t : Nat) (_ : ((T.2.getD i ([], [])).1).contains j = true := by kernel_rfl) (_ : L[j]? = some (some t) := by rfl), (V.getD j VP.any).p B W (b.eval (.tmp t))) →
  ∀ K : Act → World → Prop, (∀ v W', (V.getD i VP.any).p B W' v → Below W.heap.size W W' → K (b.put o.dst v) W') → (∀ v W', (V.getD i VP.any).p (fun k => B k ∨ k = W.heap.size) W' v → Below W.heap.size W W' → W.heap.size < W'.heap.size → K (b.put o.dst v) W') → if Region.wanted o (yielded ops b.tmps) = true then Oper.wp P o b W K Q else K (b.put o.dst undef) W
structure AInv (a0 : Act) (w0 : World) (L : List (Option Tmp)) (m : Nat) (V : List VP) (l : Nat → Bool) (B : Nat → Prop) (a : Act) (w : World) : Prop where
 size : a.tmps.size = a0.tmps.size
 defers : a.defers = a0.defers
 below : Below w0.heap.size w0 w
 boxes : ∀ k, B k → w0.heap.size ≤ k ∧ k < w.heap.size
 other : ∀ t, (∀ i, i < m → L[i]? = some (some t) → l i = false) → a.eval (.tmp t) = a0.eval (.tmp t)
 vals : ∀ i t, i < m → L[i]? = some (some t) → l i = true → (V.getD i VP.any).p B w (a.eval (.tmp t))
theorem nodup_get {L : List (Option Tmp)} (h : L.Nodup) {i j : Nat} {x : Option Tmp} (hi : L[i]? = some x) (hj : L[j]? = some x) : i = j := by
 have hi' := (List.getElem?_eq_some_iff.1 hi)
 have hj' := (List.getElem?_eq_some_iff.1 hj)
 obtain ⟨a1, e1⟩ := hi'
 obtain ⟨b1, e2⟩ := hj'
 rw [List.nodup_iff_pairwise_ne, List.pairwise_iff_getElem] at h
 rcases Nat.lt_trichotomy i j with q | q | q
 ·exact absurd (e1.trans e2.symm) (h i j a1 b1 q)
 ·exact q
 exact absurd (e2.trans e1.symm) (h j i b1 a1 q)
theorem countP_lt {p q : Nat → Bool} : ∀ (L : List Nat), (∀ x ∈ L, q x = true → p x = true) → (∃ x ∈ L, p x = true ∧ q x = false) → L.countP q < L.countP p
 | [], _, h => by obtain ⟨x, hx, _⟩ := h; cases hx
 | y :: r, h1, h2 => by
  have hle : ∀ (M : List Nat), (∀ x ∈ M, q x = true → p x = true) → M.countP q ≤ M.countP p := fun M hM => List.countP_mono_left hM
  rw [List.countP_cons, List.countP_cons]
  obtain ⟨x, hx, hp, hq⟩ := h2
  rcases List.mem_cons.1 hx with rfl | hx
  ·rw [hp, hq]
   have := hle r (fun x hx => h1 x (List.mem_cons_of_mem _ hx))
   simp
   omega
  have := countP_lt r (fun x hx => h1 x (List.mem_cons_of_mem _ hx)) ⟨x, hx, hp, hq⟩
  have h3 : (if q y = true then 1 else 0) ≤ (if p y = true then 1 else 0) := by
   by_cases hy : q y = true
   rotate_left
   ·rw [if_neg hy]
    exact Nat.zero_le _
   rw [if_pos hy, if_pos (h1 y List.mem_cons_self hy)]
   exact Nat.le_refl _
  omega
section
variable {a0 : Act} {w0 : World} {L : List (Option Tmp)} {n m : Nat} {V : List VP}
theorem AInv.start (a0 : Act) (w0 : World) (L : List (Option Tmp)) (m : Nat) (V : List VP) {l : Nat → Bool} (hl : ∀ i, l i = false) : AInv a0 w0 L m V l (fun _ => False) a0 w0 :=
 ⟨rfl, rfl, Below.refl _ _, fun _ h => h.elim, fun _ _ => rfl, fun i t _ _ h => by rw [hl i] at h; cases h⟩
theorem AInv.step {l l' : Nat → Bool} {B B' : Nat → Prop} {a : Act} {w w' : World} {i : Nat} {v : Value} {N : Option Tmp} (inv : AInv a0 w0 L m V l B a w) (him : i < m) (hN : L[i]? = some N) (hset1 : l' i = true) (hset : ∀ j, j ≠ i → l' j = l j)
  (huniq : ∀ (i j : Nat) (t : Tmp), i < m → j < m → L[i]? = some (some t) → L[j]? = some (some t) → i = j) (hlt : ∀ (i : Nat) (t : Tmp), i < m → L[i]? = some (some t) → t < a0.tmps.size)
  (hv : (V.getD i VP.any).p B' w' v) (hb : Below w.heap.size w w') (hB0 : ∀ k, B k → B' k) (hB1 : ∀ k, B' k → B k ∨ w.heap.size ≤ k) (hB2 : ∀ k, B' k → w0.heap.size ≤ k ∧ k < w'.heap.size) : AInv a0 w0 L m V l' B' (a.put N v) w' := by
 refine ⟨?_, ?_, ?_, hB2, ?_, ?_⟩
 ·rw [put_size]; exact inv.size
 ·rw [put_defers]; exact inv.defers
 ·exact inv.below.trans (hb.mono inv.below.size)
 ·intro t ht
  have hne : ∀ M, N = some M → t ≠ M := by
   intro M hM htM
   subst htM
   subst hM
   have := ht i him hN
   rw [hset1] at this
   cases this
  rw [show (a.put N v).eval (.tmp t) = a.eval (.tmp t) from by
   cases hM : N with
   | none => rfl
   | some M => exact put_other (hne M hM)]
  refine inv.other t (fun j hj hjt => ?_)
  have := ht j hj hjt
  by_cases hji : j = i
  ·subst hji
   rw [hset1] at this
   cases this
  ·rw [hset j hji] at this
   exact this
 ·intro j t hj hjt hjl
  by_cases hji : j = i
  ·subst hji
   have hM : N = some t := by
    rw [hjt] at hN
    exact (Option.some.inj hN).symm
   rw [hM, put_same (by rw [inv.size]; exact hlt j t hj hjt)]
   exact hv
  ·rw [hset j hji] at hjl
   have hne : ∀ M, N = some M → t ≠ M := by
    intro M hM htM
    subst htM
    subst hM
    exact hji (huniq j i t hj him hjt hN)
   rw [show (a.put N v).eval (.tmp t) = a.eval (.tmp t) from by
    cases hM : N with
    | none => rfl
    | some M => exact put_other (hne M hM)]
   exact (V.getD j VP.any).move B B' _ _ _ hb hB0 hB1 (inv.vals j t hj hjt hjl)
theorem AInv.filled {l : Nat → Bool} {B : Nat → Prop} {a : Act} {w : World} (inv : AInv a0 w0 L m V l B a w) : a = fillA (fun t => a.eval (.tmp t)) (L.take m) a0 := by
 refine act_ext ?_ ?_ (fun t ht => ?_)
 ·rw [fillA_size, inv.size]
 ·rw [fillA_defers, inv.defers]
 by_cases hmem : some t ∈ L.take m
 ·rw [fillA_at _ _ hmem (by rw [← inv.size]; exact ht)]
 rw [fillA_other _ _ hmem]
 refine inv.other t (fun j hj hjt => ?_)
 exact absurd (List.mem_of_getElem? (i := j) (by rw [List.getElem?_take_of_lt hj]; exact hjt)) hmem
end
def Tail (P : Program) (ops : Array Oper) (Q : Exit → Act → World → Prop) (a0 : Act) (w0 : World) (L : List (Option Tmp)) (m : Nat) (V : List VP) (R : List Oper) : Prop :=
 ∀ (vals : Nat → Value) (F : Act) (W : World) (B : Nat → Prop), F = fillA vals (L.take m) a0 → Below w0.heap.size w0 W → (∀ k, B k → w0.heap.size ≤ k ∧ k < W.heap.size) → (∀ i t, i < m → L[i]? = some (some t) → (V.getD i VP.any).p B W (vals t)) → wpList P ops Q R F W
theorem any_tail {id : Nat} {a0 : Act} {w : World} {T : Bool × List (List Nat × List Nat)} {R : List Oper} (L : List (Option Tmp)) (n m : Nat) (Bt : List Nat) (V : List VP) (hm : P.follows .mixedOrders = true) (hT : rtab .any ops = T) (hL : ops.toList.map (·.dst) = L) (hn : a0.tmps.size = n) (hc : okL L n m T Bt = true) (hR : ops.toList.drop m = R)
  (step : Each (StepOk P ops Q a0 w.drew L T V) m 0 ops.toList) (last : Tail P ops Q a0 w.drew L m V R) : (Code.region id ops true).wp P Q a0 w := by
 simp only [okL, Bool.and_eq_true, decide_eq_true_eq] at hc
 obtain ⟨⟨⟨⟨c1, c2⟩, c3⟩, c4, c4b⟩, c5⟩ := hc
 have hsz : ops.size = L.length := by rw [← hL]; simp
 have hdst : ∀ (i : Nat) (o : Oper), ops[i]? = some o → L[i]? = some o.dst := by
  intro i o ho
  rw [← hL, List.getElem?_map, Array.getElem?_toList, ho]
  rfl
 have hneeds : ∀ (i : Nat) (o : Oper), ops[i]? = some o → (T.2.getD i ([], [])).1 = needsOf .any o := by
  intro i o ho
  rw [← hT, List.getD_eq_getElem?_getD, rtab_some ho]
  rfl
 have hneed : ∀ (i : Nat) (o : Oper) (l : Array Bool), ops[i]? = some o → (∀ e ∈ o.after, Region.binds .any e = true → l.getD e.on false = true) → ∀ j, ((T.2.getD i ([], [])).1).contains j = true → l.getD j false = true := by
  intro i o l ho hall j hj
  rw [hneeds i o ho] at hj
  unfold needsOf at hj
  rw [List.contains_iff_mem, List.mem_map] at hj
  obtain ⟨e, he, rfl⟩ := hj
  rw [List.mem_filter] at he
  exact hall e (by simpa using he.1) he.2
 have hback : ∀ (i : Nat) (o : Oper) (l : Array Bool), ops[i]? = some o → (∀ j, ((T.2.getD i ([], [])).1).contains j = true → l.getD j false = true) → l.getD i true = false → i ∈ Region.ready .any ops l := by
  intro i o l ho h hl
  refine mem_ready.2 ⟨hl, o, ho, fun e he hb => ?_⟩
  refine h e.on ?_
  rw [hneeds i o ho, List.contains_iff_mem]
  unfold needsOf
  rw [List.mem_map]
  exact ⟨e, by rw [List.mem_filter]; exact ⟨by simpa using he, hb⟩, rfl⟩
 have hlt : ∀ (i : Nat) (t : Tmp), i < m → L[i]? = some (some t) → t < n := by
  intro i t hi ht
  have := List.all_eq_true.1 c2 (some t) (List.mem_of_getElem? (i := i) (by rw [List.getElem?_take_of_lt hi]; exact ht))
  simpa using this
 have huniq : ∀ (i j : Nat) (t : Tmp), i < m → j < m → L[i]? = some (some t) → L[j]? = some (some t) → i = j := by
  intro i j t hi hj h1 h2
  exact nodup_get c3 (by rw [List.getElem?_take_of_lt hi]; exact h1) (by rw [List.getElem?_take_of_lt hj]; exact h2)
 have g1 : ∀ (l : Array Bool) (i : Nat), i < l.size → l.getD i true = false → l.getD i false = false := by
  intro l i hi h
  simp only [Array.getD_eq_getD_getElem?, Array.getElem?_eq_getElem hi, Option.getD_some] at h ⊢
  exact h
 have g2 : ∀ (l : Array Bool) (i : Nat), i < l.size → l.getD i false ≠ true → l.getD i true = false := by
  intro l i hi h
  simp only [Array.getD_eq_getD_getElem?, Array.getElem?_eq_getElem hi, Option.getD_some] at h ⊢
  simpa using h
 have htail : ∀ (l : Array Bool) (d : Nat), ListedClosed .any ops l → l.size = L.length → m ≤ d → d ∈ Region.ready .any ops l → ∀ i, i < d → l.getD i false = true := by
  intro l d hcl hls hmd hd i hid
  apply Classical.byContradiction
  intro hno
  obtain ⟨_, o, ho, _⟩ := mem_ready.1 hd
  have hdl : d < L.length := by rw [← hsz]; exact (Array.getElem?_eq_some_iff.1 ho).1
  have hb := List.all_eq_true.1 c4b d (List.mem_range.2 hdl)
  rw [Bool.or_eq_true, decide_eq_true_eq] at hb
  have hbit := List.all_eq_true.1 (hb.resolve_left (by omega)) i (List.mem_range.2 hid)
  have hTl : T.2.length = L.length := by rw [← hT, rtab_length, hsz]
  have hr := reach_bit c4 (d + 1) d (by omega) (by rw [hTl]; exact hdl) hbit
  rw [← hT, ← reach_eq] at hr
  exact Region.reach_not_ready hcl hr (g2 l i (by omega) hno) hd
 have hfirst : ∀ (l : Array Bool), l.size = L.length → (∃ i, i < L.length ∧ l.getD i true = false) → Region.ready .any ops l ≠ [] := by
  intro l hls ⟨i, hi, hil⟩ hr
  have fst : ∀ (d i : Nat), d = i → (i < L.length ∧ l.getD i true = false) → ∃ i0, i0 < L.length ∧ l.getD i0 true = false ∧ ∀ j, j < i0 → l.getD j false = true := by
   intro d
   induction d using Nat.strongRecOn with
   | _ d ih =>
    intro i hd hi
    by_cases h : ∀ j, j < i → l.getD j false = true
    ·exact ⟨i, hi.1, hi.2, h⟩
    ·simp only [Classical.not_forall] at h
     obtain ⟨j, hj, hjl⟩ := h
     exact ih j (by omega) j rfl ⟨by omega, g2 l j (by omega) hjl⟩
  obtain ⟨i0, h1, h2, h3⟩ := fst i i rfl ⟨hi, hil⟩
  have ho : ops[i0]? = some (ops[i0]'(by omega)) := Array.getElem?_eq_getElem (by omega)
  have := hback i0 _ l ho (fun j hj => h3 j (by
   have := List.all_eq_true.1 c5 i0 (List.mem_range.2 h1)
   have := List.all_eq_true.1 this j (List.contains_iff_mem.1 hj)
   simpa using this)) h2
  rw [hr] at this
  cases this
 have hset : ∀ (l : Array Bool) (i j : Nat), j ≠ i → ∀ b, (l.setIfInBounds i true).getD j b = l.getD j b := by
  intro l i j hj b
  simp [Array.getD_eq_getD_getElem?, Array.getElem?_setIfInBounds, Ne.symm hj]
 have hset1 : ∀ (l : Array Bool) (i : Nat), i < l.size → ∀ b, (l.setIfInBounds i true).getD i b = true := by
  intro l i hi b
  simp [Array.getD_eq_getD_getElem?, Array.getElem?_setIfInBounds, hi]
 -- the tail, one by one
 have tail : ∀ (q d : Nat) (l : Array Bool) (a : Act) (W : World) (fuel : Nat), d + q = L.length → m ≤ d → q ≤ fuel → l.size = L.length → ListedClosed .any ops l → (∀ i, i < d → l.getD i false = true) → (∀ i, d ≤ i → i < L.length → l.getD i true = false) → wpList P ops Q (ops.toList.drop d) a W → wpAny P .any ops Q fuel l a W := by
  intro q
  induction q with
  | zero =>
   intro d l a W fuel hd hmd hq hls hcl hall _ hw
   rw [List.drop_of_length_le (by rw [Array.length_toList]; omega)] at hw
   refine wpAny_done ?_ hw fuel
   rw [List.eq_nil_iff_forall_not_mem]
   intro j hj
   obtain ⟨q1, oj, hoj, _⟩ := mem_ready.1 hj
   have hjm : j < L.length := by rw [← hsz]; exact (Array.getElem?_eq_some_iff.1 hoj).1
   have := g1 l j (by omega) q1
   rw [hall j (by omega)] at this
   cases this
  | succ q ih =>
   intro d l a W fuel hd hmd hq hls hcl hall hun hw
   obtain ⟨fuel, rfl⟩ : ∃ f, fuel = f + 1 := ⟨fuel - 1, by omega⟩
   have hdl : d < ops.toList.length := by rw [Array.length_toList]; omega
   rw [List.drop_eq_getElem_cons hdl] at hw
   refine ⟨fun hr => absurd hr (hfirst l hls ⟨d, by omega, hun d (Nat.le_refl _) (by omega)⟩), fun i hi => ?_⟩
   have hid : i = d := by
    obtain ⟨q1, oi, hoi, _⟩ := mem_ready.1 hi
    have hil : i < L.length := by rw [← hsz]; exact (Array.getElem?_eq_some_iff.1 hoi).1
    rcases Nat.lt_trichotomy i d with h | h | h
    ·have := g1 l i (by omega) q1
     rw [hall i h] at this
     cases this
    ·exact h
    ·have := htail l i hcl hls (by omega) hi d h
     rw [g1 l d (by omega) (hun d (Nat.le_refl _) (by omega))] at this
     cases this
   subst hid
   have ho : ops[i]? = some ops.toList[i] := by rw [← Array.getElem?_toList]; exact List.getElem?_eq_getElem hdl
   have hw2 : wpOp P ops Q i (wpList P ops Q (ops.toList.drop (i + 1))) a W := by
    unfold wpOp
    rw [ho]
    exact hw
   refine wpOp_mono (fun a' w' h => ?_) hw2
   refine ih (i + 1) _ a' w' fuel (by omega) (by omega) (by omega) (by rw [Array.size_setIfInBounds]; exact hls) (hcl.set hi) (fun j hj => ?_) (fun j hj hjl => ?_) h
   ·by_cases hji : j = i
    ·subst hji; exact hset1 l j (by omega) _
    ·rw [hset l i j hji]; exact hall j (by omega)
   ·rw [hset l i j (by omega)]
    exact hun j (by omega) hjl
 refine wp_region_any hm ?_
 have key : ∀ (fuel : Nat) (l : Array Bool) (B : Nat → Prop) (a : Act) (W : World), AInv a0 w.drew L m V (fun i => l.getD i false) B a W → l.size = L.length → ListedClosed .any ops l → (∀ i, m ≤ i → i < L.length → l.getD i true = false) → (List.range L.length).countP (fun i => !l.getD i true) ≤ fuel → wpAny P .any ops Q fuel l a W := by
  intro fuel
  induction fuel with
  | zero =>
   intro l B a W inv hls hcl hun hf
   have h0 : (List.range L.length).countP (fun i => !l.getD i true) = 0 := by omega
   rw [List.countP_eq_zero] at h0
   exact absurd (by rw [hun m (Nat.le_refl _) c1]; rfl) (h0 m (List.mem_range.2 c1))
  | succ fuel ih =>
   intro l B a W inv hls hcl hun hf
   refine ⟨fun hr => absurd hr (hfirst l hls ⟨m, c1, hun m (Nat.le_refl _) c1⟩), fun i hi => ?_⟩
   obtain ⟨h1, o, ho, h2'⟩ := mem_ready.1 hi
   have h2 := hneed i o l ho h2'
   have hil : i < L.length := by rw [← hsz]; exact (Array.getElem?_eq_some_iff.1 ho).1
   by_cases him : i < m
   ·unfold wpOp
    rw [ho]
    simp only
    have hst := Each.at m 0 ops.toList step i o him (by rw [Array.getElem?_toList]; exact ho)
    rw [Nat.zero_add] at hst
    have hgo : ∀ (B' : Nat → Prop) v W', (V.getD i VP.any).p B' W' v → Below W.heap.size W W' → (∀ k, B k → B' k) → (∀ k, B' k → B k ∨ W.heap.size ≤ k) → (∀ k, B' k → w.drew.heap.size ≤ k ∧ k < W'.heap.size) → wpAny P .any ops Q fuel (l.setIfInBounds i true) (a.put o.dst v) W' := by
     intro B' v W' hv hb hB0 hB1 hB2
     refine ih _ B' _ _ (inv.step him (hdst i o ho) (hset1 l i (by omega) _) (fun j hj => hset l i j hj _) huniq (fun i t h3 h4 => by rw [hn]; exact hlt i t h3 h4) hv hb hB0 hB1 hB2) (by rw [Array.size_setIfInBounds]; exact hls) (hcl.set hi) (fun j hj hjl => by rw [hset l i j (by omega)]; exact hun j hj hjl) ?_
     have := countP_lt (p := fun j => !l.getD j true) (q := fun j => !(l.setIfInBounds i true).getD j true) (List.range L.length) (fun j _ hq => by
      by_cases hji : j = i
      ·subst hji
       rw [hset1 l j (by omega)] at hq
       cases hq
      ·rwa [hset l i j hji] at hq) ⟨i, List.mem_range.2 hil, by rw [h1]; rfl, by rw [hset1 l i (by omega)]; rfl⟩
     omega
    have hst2 := hst a W B inv.below inv.boxes (fun t ht => inv.other t (fun j hj hjt => absurd (List.contains_iff_mem.2 (List.mem_of_getElem? hjt)) (by rw [ht]; simp)))
     (fun j t hj hjt => by
      have hjm : j < m := by
       have := List.all_eq_true.1 c5 i (List.mem_range.2 hil)
       have := List.all_eq_true.1 this j (List.contains_iff_mem.1 hj)
       simp only [decide_eq_true_eq] at this
       omega
      exact inv.vals j t hjm hjt (h2 j hj)) (wpAny P .any ops Q fuel (l.setIfInBounds i true))
     (fun v W' hv hb => hgo B v W' hv hb (fun k hk => hk) (fun k hk => .inl hk) (fun k hk => ⟨(inv.boxes k hk).1, Nat.lt_of_lt_of_le (inv.boxes k hk).2 hb.size⟩))
     (fun v W' hv hb hlt2 => hgo _ v W' hv hb (fun k hk => .inl hk) (fun k hk => hk.elim .inl (fun h => .inr (Nat.le_of_eq h.symm))) (fun k hk => hk.elim (fun hk => ⟨(inv.boxes k hk).1, Nat.lt_of_lt_of_le (inv.boxes k hk).2 hb.size⟩) (fun h => by rw [h]; exact ⟨inv.below.size, hlt2⟩)))
    by_cases hw : Region.wanted o (yielded ops a.tmps) = true
    ·rw [if_pos hw] at hst2 ⊢
     exact .inl hst2
    ·rw [if_neg hw] at hst2 ⊢
     exact hst2
   ·have hall := htail l i hcl hls (by omega) hi
    have hime : i = m := by
     rcases Nat.lt_or_ge m i with h | h
     ·have := hall m h
      rw [g1 l m (by omega) (hun m (Nat.le_refl _) c1)] at this
      cases this
     ·omega
    subst hime
    have hl := last (fun t => a.eval (.tmp t)) a W B inv.filled inv.below inv.boxes (fun j t hj hjt => inv.vals j t hj hjt (hall j hj))
    rw [← hR] at hl
    have hdl : i < ops.toList.length := by rw [Array.length_toList]; omega
    rw [List.drop_eq_getElem_cons hdl] at hl
    have ho2 : ops[i]? = some ops.toList[i] := by rw [← Array.getElem?_toList]; exact List.getElem?_eq_getElem hdl
    have hw2 : wpOp P ops Q i (wpList P ops Q (ops.toList.drop (i + 1))) a W := by
     unfold wpOp
     rw [ho2]
     exact hl
    refine wpOp_mono (fun a' w' h => ?_) hw2
    refine tail (L.length - (i + 1)) (i + 1) _ a' w' fuel (by omega) (by omega) ?_ (by rw [Array.size_setIfInBounds]; exact hls) (hcl.set hi) (fun j hj => ?_) (fun j hj hjl => ?_) h
    ·have hle : L.length - i ≤ (List.range L.length).countP (fun j => !l.getD j true) := by
      have hcount : ∀ (k : Nat), k ≤ L.length → k - i ≤ (List.range k).countP (fun j => !l.getD j true) := by
       intro k
       induction k with
       | zero => intro _; omega
       | succ k ihk =>
        intro hk
        rw [List.range_succ, List.countP_append, List.countP_cons, List.countP_nil]
        have := ihk (by omega)
        by_cases hki : i ≤ k
        ·rw [hun k hki (by omega)]
         simp only [Bool.not_false, if_true]
         omega
        ·omega
      exact hcount L.length (Nat.le_refl _)
     omega
    ·by_cases hji : j = i
     ·subst hji; exact hset1 l j (by omega) _
     ·rw [hset l i j hji]; exact hall j (by omega)
    ·rw [hset l i j (by omega)]
     exact hun j (by omega) hjl
 refine key ops.size _ (fun _ => False) a0 w.drew (AInv.start a0 w.drew L m V (fun i => ?_)) (by rw [Array.size_replicate, hsz]) (fun j oj hj hl => ?_) (fun i _ hi => ?_) ?_
 ·by_cases hi : i < ops.size <;> simp [Array.getD_eq_getD_getElem?, hi]
 ·exfalso
  by_cases hi : j < ops.size <;> simp [Array.getD_eq_getD_getElem?, hi] at hl
 ·simp [Array.getD_eq_getD_getElem?, hsz, hi]
 ·rw [hsz]
  exact Nat.le_trans List.countP_le_length (by simp)
def seqT (n : Nat) : Bool × List (List Nat × List Nat) := (true, (List.range n).map (fun i => (List.range i, [])))
def okS (L : List (Option Tmp)) (n m : Nat) : Bool :=
 decide (m ≤ L.length) && (L.take m).all (fun N => match N with | some t => decide (t < n) | none => false) && decide (L.take m).Nodup
theorem seq_tail {id : Nat} {a0 : Act} {w : World} {R : List Oper} (L : List (Option Tmp)) (n m : Nat) (V : List VP) (hL : ops.toList.map (·.dst) = L) (hn : a0.tmps.size = n) (hc : okS L n m = true) (hR : ops.toList.drop m = R)
  (step : Each (StepOk P ops Q a0 w L (seqT m) V) m 0 ops.toList) (last : Tail P ops Q a0 w L m V R) : (Code.region id ops false).wp P Q a0 w := by
 simp only [okS, Bool.and_eq_true, decide_eq_true_eq] at hc
 obtain ⟨⟨c1, c2⟩, c3⟩ := hc
 have hsz : ops.size = L.length := by rw [← hL]; simp
 have hdst : ∀ (i : Nat) (o : Oper), ops[i]? = some o → L[i]? = some o.dst := by
  intro i o ho
  rw [← hL, List.getElem?_map, Array.getElem?_toList, ho]
  rfl
 have hlt : ∀ (i : Nat) (t : Tmp), i < m → L[i]? = some (some t) → t < n := by
  intro i t hi ht
  have := List.all_eq_true.1 c2 (some t) (List.mem_of_getElem? (i := i) (by rw [List.getElem?_take_of_lt hi]; exact ht))
  simpa using this
 have huniq : ∀ (i j : Nat) (t : Tmp), i < m → j < m → L[i]? = some (some t) → L[j]? = some (some t) → i = j := by
  intro i j t hi hj h1 h2
  exact nodup_get c3 (by rw [List.getElem?_take_of_lt hi]; exact h1) (by rw [List.getElem?_take_of_lt hj]; exact h2)
 refine wp_region_list ?_
 have key : ∀ (q d : Nat) (B : Nat → Prop) (a : Act) (W : World), d + q = m → AInv a0 w L m V (fun i => decide (i < d)) B a W → wpList P ops Q (ops.toList.drop d) a W := by
  intro q
  induction q with
  | zero =>
   intro d B a W hd inv
   obtain rfl : d = m := by omega
   rw [hR]
   exact last (fun t => a.eval (.tmp t)) a W B inv.filled inv.below inv.boxes (fun j t hj hjt => inv.vals j t hj hjt (decide_eq_true hj))
  | succ q ih =>
   intro d B a W hd inv
   have hdl : d < ops.toList.length := by rw [Array.length_toList]; omega
   have ho : ops[d]? = some ops.toList[d] := by rw [← Array.getElem?_toList]; exact List.getElem?_eq_getElem hdl
   rw [List.drop_eq_getElem_cons hdl]
   have hst := Each.at m 0 ops.toList step d _ (by omega) (List.getElem?_eq_getElem hdl)
   rw [Nat.zero_add] at hst
   have hTn : ((seqT m).2.getD d ([], [])).1 = List.range d := by
    have hdm : d < m := by omega
    simp [seqT, List.getD_eq_getElem?_getD, List.getElem?_range hdm]
   have hgo : ∀ (B' : Nat → Prop) v W', (V.getD d VP.any).p B' W' v → Below W.heap.size W W' → (∀ k, B k → B' k) → (∀ k, B' k → B k ∨ W.heap.size ≤ k) → (∀ k, B' k → w.heap.size ≤ k ∧ k < W'.heap.size) → wpList P ops Q (ops.toList.drop (d + 1)) (a.put ops.toList[d].dst v) W' := by
    intro B' v W' hv hb hB0 hB1 hB2
    exact ih (d + 1) B' _ _ (by omega) (inv.step (by omega) (hdst d _ ho) (decide_eq_true (by omega)) (fun j hj => by rw [decide_eq_decide]; omega) huniq (fun i t h3 h4 => by rw [hn]; exact hlt i t h3 h4) hv hb hB0 hB1 hB2)
   have hst2 := hst a W B inv.below inv.boxes (fun t ht => inv.other t (fun j hj hjt => absurd (List.contains_iff_mem.2 (List.mem_of_getElem? hjt)) (by rw [ht]; simp)))
    (fun j t hj hjt => by
     rw [hTn] at hj
     have hjd : j < d := List.mem_range.1 (List.contains_iff_mem.1 hj)
     exact inv.vals j t (by omega) hjt (decide_eq_true hjd)) (wpList P ops Q (ops.toList.drop (d + 1)))
    (fun v W' hv hb => hgo B v W' hv hb (fun k hk => hk) (fun k hk => .inl hk) (fun k hk => ⟨(inv.boxes k hk).1, Nat.lt_of_lt_of_le (inv.boxes k hk).2 hb.size⟩))
    (fun v W' hv hb hlt2 => hgo _ v W' hv hb (fun k hk => .inl hk) (fun k hk => hk.elim .inl (fun h => .inr (Nat.le_of_eq h.symm))) (fun k hk => hk.elim (fun hk => ⟨(inv.boxes k hk).1, Nat.lt_of_lt_of_le (inv.boxes k hk).2 hb.size⟩) (fun h => by rw [h]; exact ⟨inv.below.size, hlt2⟩)))
   by_cases hw : Region.wanted ops.toList[d] (yielded ops a.tmps) = true
   ·rw [if_pos hw] at hst2
    show (if _ then _ else _)
    rw [if_pos hw]
    exact .inl hst2
   ·rw [if_neg hw] at hst2
    show (if _ then _ else _)
    rw [if_neg hw]
    exact hst2
 have := key m 0 (fun _ => False) a0 w (by omega) (AInv.start a0 w L m V (fun i => decide_eq_false (Nat.not_lt_zero i)))
 rwa [List.drop_zero] at this
end
section
variable {P : Program} {ops : Array Oper} {Q : Exit → Act → World → Prop} {o : Oper} {b : Act} {W : World} {K : Act → World → Prop} {s s1 s2 s3 : Tmp}
theorem tm_eval {b : Act} {t : Tmp} {v : Value} (h : b.eval (.tmp t) = v) : b.tmps[t]?.getD undef = v := by
 rw [← h]
 simp [Act.eval]
theorem cnd {C : Bool} {e u : Value} (h : e = cond C u undef) (hC : C = true) : e = u := by rw [h, hC]; rfl
theorem cnd_and {C D : Bool} {e u : Value} (h : e = cond (C && D) u undef) (hC : C = true) : e = cond D u undef := by rw [h, hC]; rfl
theorem and_l {C D : Bool} (h : (C && D) = true) : C = true := by cases C; cases h; rfl
theorem and_r {C D : Bool} (h : (C && D) = true) : D = true := by cases C; cases h; exact h
theorem wn_ (hg : o.guard = none := by rfl) : Region.wanted o (yielded ops b.tmps) = true := by unfold Region.wanted; rw [hg]
theorem wg {j : Nat} {want : Bool} {t : Tmp} {C x : Bool} (he : b.eval (.tmp t) = cond C (.bool x) undef) (hg : o.guard = some (j, want) := by rfl) (hj : (ops[j]?).bind (·.dst) = some t := by kernel_rfl) : Region.wanted o (yielded ops b.tmps) = (C && (x == want)) := by
 unfold Region.wanted
 rw [hg]
 simp only
 unfold yielded
 rw [hj]
 simp only [Option.bind_some]
 unfold Act.eval at he
 simp only [Array.getD_eq_getD_getElem?] at he
 cases h : b.tmps[t]? with
 | none =>
  rw [h] at he
  cases C with
  | false => rfl
  | true => cases he
 | some v =>
  rw [h] at he
  simp only [Option.getD_some] at he
  subst he
  cases C with
  | false => rfl
  | true => cases x <;> cases want <;> rfl
theorem wg0 {j : Nat} {want : Bool} {t : Tmp} {x : Bool} (he : b.eval (.tmp t) = .bool x) (hg : o.guard = some (j, want) := by rfl) (hj : (ops[j]?).bind (·.dst) = some t := by kernel_rfl) : Region.wanted o (yielded ops b.tmps) = (x == want) := (wg (C := true) he hg hj).trans (Bool.true_and _)
theorem gd_step {C : Bool} {u : Value} (hw : Region.wanted o (yielded ops b.tmps) = C) (hr : C = true → (execOp b.eval o).run P W = .ok (.value u) W) (hK : K (b.put o.dst (cond C u undef)) W) :
  if Region.wanted o (yielded ops b.tmps) = true then Oper.wp P o b W K Q else K (b.put o.dst undef) W := by
 cases C with
 | true => exact value_ hw rfl (hr rfl) hK
 | false => rw [hw]; exact hK
theorem gc_step {C : Bool} {u : Value} {f : FuncId} {args : Array Value} (hw : Region.wanted o (yielded ops b.tmps) = C) (hr : C = true → (execOp b.eval o).run P W = .ok (.enter f args) W ∧ Calls P f args W fun e W' => e = .returned u ∧ Below W.heap.size W W') (hK : ∀ W', Below W.heap.size W W' → K (b.put o.dst (cond C u undef)) W') :
  if Region.wanted o (yielded ops b.tmps) = true then Oper.wp P o b W K Q else K (b.put o.dst undef) W := by
 cases C with
 | true => exact call_ f args hw rfl (hr rfl).1 ((hr rfl).2.mono (fun e W' h => ⟨u, h.1, hK W' h.2⟩))
 | false => rw [hw]; exact hK W (Below.refl _ _)
theorem last_step {C : Bool} {u : Value} {R : List Oper} (hw : Region.wanted o (yielded ops b.tmps) = C) (hr : C = true → (execOp b.eval o).run P W = .ok (.value u) W) (hK : wpList P ops Q R (b.put o.dst (cond C u undef)) W) : wpList P ops Q (o :: R) b W := by
 have h := gd_step (Q := Q) (K := wpList P ops Q R) hw hr hK
 unfold wpList
 by_cases hq : Region.wanted o (yielded ops b.tmps) = true
 rotate_left
 ·rw [if_neg hq] at h ⊢
  exact h
 rw [if_pos hq] at h ⊢
 exact .inl h
theorem x_move {u : Value} (ho : o.op = .move (.tmp s)) (h : b.eval (.tmp s) = u) : (execOp b.eval o).run P W = .ok (.value u) W := by
 unfold execOp
 rw [ho]
 simp only [h]
 rfl
theorem x_or {x y : Bool} (ho : o.op = .pick (.tmp s) (.const (.bool true)) (.tmp s2)) (h1 : b.eval (.tmp s) = .bool x) (h2 : b.eval (.tmp s2) = cond (x == false) (.bool y) undef) : (execOp b.eval o).run P W = .ok (.value (.bool (x || y))) W := by
 unfold execOp
 rw [ho]
 simp only [h1, h2]
 cases x <;> rfl
theorem x_and {x y : Bool} (ho : o.op = .pick (.tmp s) (.tmp s2) (.const (.bool false))) (h1 : b.eval (.tmp s) = .bool x) (h2 : b.eval (.tmp s2) = cond (x == true) (.bool y) undef) : (execOp b.eval o).run P W = .ok (.value (.bool (x && y))) W := by
 unfold execOp
 rw [ho]
 simp only [h1, h2]
 cases x <;> rfl
theorem x_not {x : Bool} {t : TypeId} (ho : o.op = .unOp .not t (.tmp s)) (h : b.eval (.tmp s) = .bool x) : (execOp b.eval o).run P W = .ok (.value (.bool (!x))) W := by
 unfold execOp
 rw [ho]
 simp only [h]
 rfl
theorem x_call {f : FuncId} {fn : Func} {aa : Array Operand} {ts : Array TypeId} {args : Array Value} (hf : P.funcs[f]? = some fn) (hname : (fn.name == "runtime.NumGoroutine") = false) (hb : fn.body.isSome = true) (ho : o.op = .call { callee := .value (.func f), args := aa, argTypes := ts }) (h : aa.map b.eval = args) : (execOp b.eval o).run P W = .ok (.enter f args) W := by
 have he := enters_ hf hname hb args W
 unfold execOp
 simp [ho, resolve, Deferred.ofValue, invoke, Act.eval, h, he]
theorem args1 {b : Act} {p : Operand} {x : Value} (h1 : b.eval p = x) : (#[p] : Array Operand).map b.eval = #[x] := by
 simp only [List.map_toArray, List.map_cons, List.map_nil, h1]
theorem args2 {b : Act} {p q : Operand} {x y : Value} (h1 : b.eval p = x) (h2 : b.eval q = y) : (#[p, q] : Array Operand).map b.eval = #[x, y] := by
 simp only [List.map_toArray, List.map_cons, List.map_nil, h1, h2]
theorem args3 {b : Act} {p q r : Operand} {x y z : Value} (h1 : b.eval p = x) (h2 : b.eval q = y) (h3 : b.eval r = z) : (#[p, q, r] : Array Operand).map b.eval = #[x, y, z] := by
 simp only [List.map_toArray, List.map_cons, List.map_nil, h1, h2, h3]
theorem ifb {α β : Type} [Inhabited α] {G : Bool} {o : Option α} {f : α → Option β} {t z : β} (h : (if G = true then some z else o.bind f) = some t) : ∃ u, ((G == false) = true → o = some u) ∧ (G = true → t = z) ∧ (G = false → f u = some t) := by
 cases G with
 | true => exact ⟨default, (fun q => by cases q), (fun _ => by rw [if_pos rfl] at h; exact (Option.some.inj h).symm), (fun q => by cases q)⟩
 | false =>
  rw [if_neg Bool.false_ne_true] at h
  obtain ⟨u, hu, h⟩ := Option.bind_eq_some_iff.1 h
  exact ⟨u, fun _ => hu, (fun q => by cases q), fun _ => h⟩
theorem ifz {β : Type} {G : Bool} {o : Option β} {t z : β} (h : (if G = true then some z else o) = some t) : (G = true → t = z) ∧ (G = false → o = some t) := by
 cases G with
 | true => exact ⟨(fun _ => by rw [if_pos rfl] at h; exact (Option.some.inj h).symm), (fun q => by cases q)⟩
 | false => exact ⟨(fun q => by cases q), (fun _ => by rw [if_neg Bool.false_ne_true] at h; exact h)⟩
theorem orT {a b : Bool} {p : Prop} (h : (a || b) = true) (h1 : a = true → p) (h2 : a = false → b = true → p) : p := by cases a; exact h2 rfl h; exact h1 rfl
theorem orF1 {a b : Bool} (h : (a || b) = false) : a = false := by cases a; rfl; cases h
theorem orF2 {a b : Bool} (h : (a || b) = false) : b = false := by cases a; exact h; cases h
end
section
variable {ops : Array Oper} {Q : Exit → Act → World → Prop} {o : Oper} {b : Act} {W : World} {K : Act → World → Prop} {s s1 s2 s3 : Tmp}
theorem x_sub {x y z : Int} {p q : Operand} (ho : o.op = .binOp .sub 3 p q 3) (h1 : b.eval p = .int .i64 x) (h2 : b.eval q = .int .i64 y) (hz : IntKind.i64.wrap (x - y) = z) : (execOp b.eval o).run Tryd.prog W = .ok (.value (.int .i64 z)) W := by
 have hu3 := Tryd.underlying3
 subst hz
 unfold execOp
 rw [ho]
 simp only [h1, h2]
 go_simp
theorem x_lss {x y : Int} {p q : Operand} (ho : o.op = .binOp .lss 3 p q 3) (h1 : b.eval p = .int .i64 x) (h2 : b.eval q = .int .i64 y) : (execOp b.eval o).run Tryd.prog W = .ok (.value (.bool (decide (x < y)))) W := by
 have hu3 := Tryd.underlying3
 unfold execOp
 rw [ho]
 simp only [h1, h2]
 go_simp
theorem x_geq {x y : Int} {p q : Operand} (ho : o.op = .binOp .geq 3 p q 3) (h1 : b.eval p = .int .i64 x) (h2 : b.eval q = .int .i64 y) : (execOp b.eval o).run Tryd.prog W = .ok (.value (.bool (decide (x ≥ y)))) W := by
 have hu3 := Tryd.underlying3
 unfold execOp
 rw [ho]
 simp only [h1, h2]
 go_simp
theorem x_eql {x y : Int} {p q : Operand} (ho : o.op = .binOp .eql 3 p q 3) (h1 : b.eval p = .int .i64 x) (h2 : b.eval q = .int .i64 y) : (execOp b.eval o).run Tryd.prog W = .ok (.value (.bool (x == y))) W := by
 have hu3 := Tryd.underlying3
 unfold execOp
 rw [ho]
 simp only [h1, h2]
 go_simp
theorem x_neq {x y : Int} {p q : Operand} (ho : o.op = .binOp .neq 3 p q 3) (h1 : b.eval p = .int .i64 x) (h2 : b.eval q = .int .i64 y) : (execOp b.eval o).run Tryd.prog W = .ok (.value (.bool (x != y))) W := by
 have hu3 := Tryd.underlying3
 unfold execOp
 rw [ho]
 simp only [h1, h2]
 go_simp
theorem x_len {A : Option Addr} {n c : Nat} {t e : TypeId} (hu : Tryd.prog.underlying t = some (.slice e)) (ho : o.op = .call { callee := .builtin .len, args := #[.tmp s], argTypes := #[t] }) (h : b.eval (.tmp s) = .slice A n c) : (execOp b.eval o).run Tryd.prog W = .ok (.value (.int .i64 n)) W := by
 replace h := tm_eval h
 unfold execOp
 rw [ho]
 go_simp
theorem x_fa92 {g i : Nat} (ho : o.op = .fieldAddr 62 (.tmp s) i) (hi : i < 3) (h : b.eval (.tmp s) = .pointer (some ⟨g, 0, none⟩)) : (execOp b.eval o).run Tryd.prog W = .ok (.value (.pointer (some ⟨g, i, none⟩))) W := by
 have hu92 := Tryd.underlying62
 unfold execOp
 rw [ho]
 simp only [h]
 match i, hi with
 | 0, _ => go_simp
 | 1, _ => go_simp
 | 2, _ => go_simp
theorem x_fa38 {g i : Nat} (ho : o.op = .fieldAddr 36 (.tmp s) i) (hi : i < 6) (h : b.eval (.tmp s) = .pointer (some ⟨g, 0, none⟩)) : (execOp b.eval o).run Tryd.prog W = .ok (.value (.pointer (some ⟨g, i, none⟩))) W := by
 have hu38 := Tryd.underlying36
 unfold execOp
 rw [ho]
 simp only [h]
 match i, hi with
 | 0, _ => go_simp
 | 1, _ => go_simp
 | 2, _ => go_simp
 | 3, _ => go_simp
 | 4, _ => go_simp
 | 5, _ => go_simp
theorem x_ld3 {ad : Addr} {x : Int} (ho : o.op = .load 3 (.tmp s)) (h : b.eval (.tmp s) = .pointer (some ad)) (hc : W.cell? ad = some (.int .i64 x)) : (execOp b.eval o).run Tryd.prog W = .ok (.value (.int .i64 x)) W := by
 unfold execOp
 rw [ho]
 simp only [h]
 go_simp
theorem x_ld34 {ad : Addr} {A : Option Addr} {n c : Nat} (ho : o.op = .load 32 (.tmp s)) (h : b.eval (.tmp s) = .pointer (some ad)) (hc : W.cell? ad = some (.slice A n c)) : (execOp b.eval o).run Tryd.prog W = .ok (.value (.slice A n c)) W := by
 unfold execOp
 rw [ho]
 simp only [h]
 go_simp
theorem x_slhi34 {ad : Addr} {n c k : Nat} (ho : o.op = .slice 32 (.tmp s) none (some (.tmp s2)) none) (h : b.eval (.tmp s) = .slice (some ad) n c) (h2 : b.eval (.tmp s2) = .int .i64 k) (hk : k ≤ c) : (execOp b.eval o).run Tryd.prog W = .ok (.value (.slice (some ad) k c)) W := by
 have hu34 := Tryd.underlying32
 have hk2 : (k : Int) ≤ (c : Int) := Int.ofNat_le.2 hk
 have hk0 : (0 : Int) ≤ (k : Int) := Int.natCast_nonneg _
 replace h := tm_eval h
 replace h2 := tm_eval h2
 unfold execOp
 rw [ho]
 go_simp
theorem x_gtr {x y : Int} {p q : Operand} (ho : o.op = .binOp .gtr 3 p q 3) (h1 : b.eval p = .int .i64 x) (h2 : b.eval q = .int .i64 y) : (execOp b.eval o).run Tryd.prog W = .ok (.value (.bool (decide (x > y)))) W := by
 have hu3 := Tryd.underlying3
 unfold execOp
 rw [ho]
 simp only [h1, h2]
 go_simp
theorem x_add {x y z : Int} {p q : Operand} (ho : o.op = .binOp .add 3 p q 3) (h1 : b.eval p = .int .i64 x) (h2 : b.eval q = .int .i64 y) (hz : IntKind.i64.wrap (x + y) = z) : (execOp b.eval o).run Tryd.prog W = .ok (.value (.int .i64 z)) W := by
 have hu3 := Tryd.underlying3
 subst hz
 unfold execOp
 rw [ho]
 simp only [h1, h2]
 go_simp
theorem x_ld22 {ad : Addr} {A : Option Addr} {n c : Nat} (ho : o.op = .load 22 (.tmp s)) (h : b.eval (.tmp s) = .pointer (some ad)) (hc : W.cell? ad = some (.slice A n c)) : (execOp b.eval o).run Tryd.prog W = .ok (.value (.slice A n c)) W := by
 unfold execOp
 rw [ho]
 simp only [h]
 go_simp
theorem x_ld24 {ad : Addr} {A : Option Addr} {n c : Nat} (ho : o.op = .load 24 (.tmp s)) (h : b.eval (.tmp s) = .pointer (some ad)) (hc : W.cell? ad = some (.slice A n c)) : (execOp b.eval o).run Tryd.prog W = .ok (.value (.slice A n c)) W := by
 unfold execOp
 rw [ho]
 simp only [h]
 go_simp
theorem x_ld35 {ad : Addr} {A : Option Addr} {n c : Nat} (ho : o.op = .load 33 (.tmp s)) (h : b.eval (.tmp s) = .pointer (some ad)) (hc : W.cell? ad = some (.slice A n c)) : (execOp b.eval o).run Tryd.prog W = .ok (.value (.slice A n c)) W := by
 unfold execOp
 rw [ho]
 simp only [h]
 go_simp
theorem x_ld36 {ad : Addr} {A : Option Addr} {n c : Nat} (ho : o.op = .load 34 (.tmp s)) (h : b.eval (.tmp s) = .pointer (some ad)) (hc : W.cell? ad = some (.slice A n c)) : (execOp b.eval o).run Tryd.prog W = .ok (.value (.slice A n c)) W := by
 unfold execOp
 rw [ho]
 simp only [h]
 go_simp
theorem x_fa95 {g i : Nat} (ho : o.op = .fieldAddr 65 (.tmp s) i) (hi : i < 5) (h : b.eval (.tmp s) = .pointer (some ⟨g, 0, none⟩)) : (execOp b.eval o).run Tryd.prog W = .ok (.value (.pointer (some ⟨g, i, none⟩))) W := by
 have hu95 := Tryd.underlying65
 unfold execOp
 rw [ho]
 simp only [h]
 match i, hi with
 | 0, _ => go_simp
 | 1, _ => go_simp
 | 2, _ => go_simp
 | 3, _ => go_simp
 | 4, _ => go_simp
theorem x_fa97 {g i : Nat} (ho : o.op = .fieldAddr 67 (.tmp s) i) (hi : i < 4) (h : b.eval (.tmp s) = .pointer (some ⟨g, 0, none⟩)) : (execOp b.eval o).run Tryd.prog W = .ok (.value (.pointer (some ⟨g, i, none⟩))) W := by
 have hu97 := Tryd.underlying67
 unfold execOp
 rw [ho]
 simp only [h]
 match i, hi with
 | 0, _ => go_simp
 | 1, _ => go_simp
 | 2, _ => go_simp
 | 3, _ => go_simp
theorem x_ld9 {ad : Addr} {y : ByteArray} (ho : o.op = .load 9 (.tmp s)) (h : b.eval (.tmp s) = .pointer (some ad)) (hc : W.cell? ad = some (.string y)) : (execOp b.eval o).run Tryd.prog W = .ok (.value (.string y)) W := by
 unfold execOp
 rw [ho]
 simp only [h]
 go_simp
theorem x_ix22 {ad : Addr} {n c k : Nat} (ho : o.op = .indexAddr 22 (.tmp s) (.tmp s2)) (h : b.eval (.tmp s) = .slice (some ad) n c) (h2 : b.eval (.tmp s2) = .int .i64 k) (hk : k < n) (hn : n ≤ 9223372036854775807) : (execOp b.eval o).run Tryd.prog W = .ok (.value (.pointer (some (ad.add k)))) W := by
 have hu22 := Tryd.underlying22
 have h0 : (0 : Int) ≤ (k : Int) := by omega
 have h1 : (k : Int) < (n : Int) := by omega
 unfold execOp
 rw [ho]
 simp only [h, h2]
 go_simp
theorem x_slhi22 {ad : Addr} {n c k : Nat} (ho : o.op = .slice 22 (.tmp s) none (some (.tmp s2)) none) (h : b.eval (.tmp s) = .slice (some ad) n c) (h2 : b.eval (.tmp s2) = .int .i64 k) (hk : k ≤ c) : (execOp b.eval o).run Tryd.prog W = .ok (.value (.slice (some ad) k c)) W := by
 have hu22 := Tryd.underlying22
 have hk2 : (k : Int) ≤ (c : Int) := Int.ofNat_le.2 hk
 have hk0 : (0 : Int) ≤ (k : Int) := Int.natCast_nonneg _
 replace h := tm_eval h
 replace h2 := tm_eval h2
 unfold execOp
 rw [ho]
 go_simp
end
theorem sin_is (a lo hi : Int) : spec_l01In.f a lo hi = some (inB a lo hi) := by
 unfold spec_l01In.f inB
 by_cases h : a ≥ lo
 ·rw [if_pos h, decide_eq_true (show lo ≤ a from h), Bool.true_and]
 rw [if_neg h, decide_eq_false (show ¬ lo ≤ a from h), Bool.false_and]
def snamesO (k : Nat) (all : List ByteArray) : List ByteArray → Nat → Option Bool
 | [], _ => some true
 | y :: r, i => (spec_NameOK.f k y).bind fun t => if (!t) = true then some false else (spec_l06Place.f k (all.take i) y).bind fun u => if decide (u ≥ 0) = true then some false else snamesO k all r (i + 1)
def slinksO (k : Nat) (n : Nat) (all : List S92) : List S92 → Nat → Option Bool
 | [], _ => some true
 | x :: r, i => if ((((!(inB x.f0 0 ((n : Int) - 1))) || (!(inB x.f1 0 ((n : Int) - 1)))) || (x.f0 == x.f1)) || (!(inB x.f2 1 100))) = true then some false else (spec_l06Link.f k (all.take i) x.f0 x.f1).bind fun u => if decide (u ≥ 0) = true then some false else slinksO k n all r (i + 1)
def simpsO (k : Nat) (all : List S92) : List S95 → Option Bool
 | [] => some true
 | x :: r => (spec_l06Link.f k all x.f0 x.f1).bind fun u => if (((((decide (u < 0)) || (!(inB x.f2 0 2))) || (!(inB x.f3 1 4))) || ((x.f3 == 2) && (!(inB x.f4 0 1000)))) || ((x.f3 != 2) && (x.f4 != 0))) = true then some false else simpsO k all r
def sfiltsO (k : Nat) (all : List S92) : List S97 → Option Bool
 | [] => some true
 | x :: r => (spec_l06Link.f k all x.f0 x.f1).bind fun u => if (((decide (u < 0)) || (!(inB x.f2 0 15))) || (!(inB x.f3 x.f2 15))) = true then some false else sfiltsO k all r
def spec_NetOK.f (k : Nat) (l0_0 : List ByteArray) (l0_1 : List S92) (l0_2 : List Int) (l0_3 : List Int) (l0_4 : List S95) (l0_5 : List S97) : Option Bool :=
 if ((((!(inB (l0_0.length : Int) 1 4)) || (decide ((l0_1.length : Int) > 6))) || (decide ((l0_4.length : Int) > 12))) || (decide ((l0_5.length : Int) > 6))) = true then some false else
  (spec_l06Rising.f k l0_2 l0_0.length).bind fun a => if (!a) = true then some false else
   (spec_l06Rising.f k l0_3 l0_0.length).bind fun b => if ((!b) || (decide ((l0_3.length : Int) > 2))) = true then some false else
    (snamesO k l0_0 l0_0 0).bind fun t => if (!t) = true then some false else
     (slinksO k l0_0.length l0_1 l0_1 0).bind fun u => if (!u) = true then some false else
      (simpsO k l0_1 l0_4).bind fun v => if (!v) = true then some false else sfiltsO k l0_1 l0_5
theorem boxi3 {W : World} {g : Nat} {t : TypeId} {u0 u1 u2 : Value} {a0 a1 a2 : Int} (hb : W.heap[g]? = some (.cells #[u0, u1, u2] t (0, 0))) : (((W.setCell ⟨g, 0, none⟩ (.int .i64 a0)).setCell ⟨g, 1, none⟩ (.int .i64 a1)).setCell ⟨g, 2, none⟩ (.int .i64 a2)).heap[g]? = some (.cells #[.int .i64 a0, .int .i64 a1, .int .i64 a2] t (0, 0)) ∧ Kept W (((W.setCell ⟨g, 0, none⟩ (.int .i64 a0)).setCell ⟨g, 1, none⟩ (.int .i64 a1)).setCell ⟨g, 2, none⟩ (.int .i64 a2)) (fun k => k = g) ∧ ∀ w0 : World, Below w0.heap.size w0 W → w0.heap.size ≤ g → Below w0.heap.size w0 (((W.setCell ⟨g, 0, none⟩ (.int .i64 a0)).setCell ⟨g, 1, none⟩ (.int .i64 a1)).setCell ⟨g, 2, none⟩ (.int .i64 a2)) := by
 have hs : ∀ (V : World) (i : Nat) (u : Value), Kept V (V.setCell ⟨g, i, none⟩ u) (fun k => k = g) := fun V i u => Kept.setCell (S := fun k => k = g) (p := ⟨g, i, none⟩) (Kept.refl V _) (.inl rfl) u
 exact ⟨(blk_put (cs' := #[.int .i64 a0, .int .i64 a1, .int .i64 a2]) (blk_put (cs' := #[.int .i64 a0, .int .i64 a1, u2]) (blk_put (cs' := #[.int .i64 a0, u1, u2]) hb 0 _ rfl) 1 _ rfl) 2 _ rfl), (((hs _ 0 _).then_ (hs _ 1 _) (fun _ h => .inl h)).then_ (hs _ 2 _) (fun _ h => .inl h)), fun w0 h1 h2 => (below_set (below_set (below_set h1 h2) h2) h2)⟩
theorem boxi4 {W : World} {g : Nat} {t : TypeId} {u0 u1 u2 u3 : Value} {a0 a1 a2 a3 : Int} (hb : W.heap[g]? = some (.cells #[u0, u1, u2, u3] t (0, 0))) : ((((W.setCell ⟨g, 0, none⟩ (.int .i64 a0)).setCell ⟨g, 1, none⟩ (.int .i64 a1)).setCell ⟨g, 2, none⟩ (.int .i64 a2)).setCell ⟨g, 3, none⟩ (.int .i64 a3)).heap[g]? = some (.cells #[.int .i64 a0, .int .i64 a1, .int .i64 a2, .int .i64 a3] t (0, 0)) ∧ Kept W ((((W.setCell ⟨g, 0, none⟩ (.int .i64 a0)).setCell ⟨g, 1, none⟩ (.int .i64 a1)).setCell ⟨g, 2, none⟩ (.int .i64 a2)).setCell ⟨g, 3, none⟩ (.int .i64 a3)) (fun k => k = g) ∧ ∀ w0 : World, Below w0.heap.size w0 W → w0.heap.size ≤ g → Below w0.heap.size w0 ((((W.setCell ⟨g, 0, none⟩ (.int .i64 a0)).setCell ⟨g, 1, none⟩ (.int .i64 a1)).setCell ⟨g, 2, none⟩ (.int .i64 a2)).setCell ⟨g, 3, none⟩ (.int .i64 a3)) := by
 have hs : ∀ (V : World) (i : Nat) (u : Value), Kept V (V.setCell ⟨g, i, none⟩ u) (fun k => k = g) := fun V i u => Kept.setCell (S := fun k => k = g) (p := ⟨g, i, none⟩) (Kept.refl V _) (.inl rfl) u
 exact ⟨(blk_put (cs' := #[.int .i64 a0, .int .i64 a1, .int .i64 a2, .int .i64 a3]) (blk_put (cs' := #[.int .i64 a0, .int .i64 a1, .int .i64 a2, u3]) (blk_put (cs' := #[.int .i64 a0, .int .i64 a1, u2, u3]) (blk_put (cs' := #[.int .i64 a0, u1, u2, u3]) hb 0 _ rfl) 1 _ rfl) 2 _ rfl) 3 _ rfl), ((((hs _ 0 _).then_ (hs _ 1 _) (fun _ h => .inl h)).then_ (hs _ 2 _) (fun _ h => .inl h)).then_ (hs _ 3 _) (fun _ h => .inl h)), fun w0 h1 h2 => (below_set (below_set (below_set (below_set h1 h2) h2) h2) h2)⟩
theorem boxi5 {W : World} {g : Nat} {t : TypeId} {u0 u1 u2 u3 u4 : Value} {a0 a1 a2 a3 a4 : Int} (hb : W.heap[g]? = some (.cells #[u0, u1, u2, u3, u4] t (0, 0))) : (((((W.setCell ⟨g, 0, none⟩ (.int .i64 a0)).setCell ⟨g, 1, none⟩ (.int .i64 a1)).setCell ⟨g, 2, none⟩ (.int .i64 a2)).setCell ⟨g, 3, none⟩ (.int .i64 a3)).setCell ⟨g, 4, none⟩ (.int .i64 a4)).heap[g]? = some (.cells #[.int .i64 a0, .int .i64 a1, .int .i64 a2, .int .i64 a3, .int .i64 a4] t (0, 0)) ∧ Kept W (((((W.setCell ⟨g, 0, none⟩ (.int .i64 a0)).setCell ⟨g, 1, none⟩ (.int .i64 a1)).setCell ⟨g, 2, none⟩ (.int .i64 a2)).setCell ⟨g, 3, none⟩ (.int .i64 a3)).setCell ⟨g, 4, none⟩ (.int .i64 a4)) (fun k => k = g) ∧ ∀ w0 : World, Below w0.heap.size w0 W → w0.heap.size ≤ g → Below w0.heap.size w0 (((((W.setCell ⟨g, 0, none⟩ (.int .i64 a0)).setCell ⟨g, 1, none⟩ (.int .i64 a1)).setCell ⟨g, 2, none⟩ (.int .i64 a2)).setCell ⟨g, 3, none⟩ (.int .i64 a3)).setCell ⟨g, 4, none⟩ (.int .i64 a4)) := by
 have hs : ∀ (V : World) (i : Nat) (u : Value), Kept V (V.setCell ⟨g, i, none⟩ u) (fun k => k = g) := fun V i u => Kept.setCell (S := fun k => k = g) (p := ⟨g, i, none⟩) (Kept.refl V _) (.inl rfl) u
 exact ⟨(blk_put (cs' := #[.int .i64 a0, .int .i64 a1, .int .i64 a2, .int .i64 a3, .int .i64 a4]) (blk_put (cs' := #[.int .i64 a0, .int .i64 a1, .int .i64 a2, .int .i64 a3, u4]) (blk_put (cs' := #[.int .i64 a0, .int .i64 a1, .int .i64 a2, u3, u4]) (blk_put (cs' := #[.int .i64 a0, .int .i64 a1, u2, u3, u4]) (blk_put (cs' := #[.int .i64 a0, u1, u2, u3, u4]) hb 0 _ rfl) 1 _ rfl) 2 _ rfl) 3 _ rfl) 4 _ rfl), (((((hs _ 0 _).then_ (hs _ 1 _) (fun _ h => .inl h)).then_ (hs _ 2 _) (fun _ h => .inl h)).then_ (hs _ 3 _) (fun _ h => .inl h)).then_ (hs _ 4 _) (fun _ h => .inl h)), fun w0 h1 h2 => (below_set (below_set (below_set (below_set (below_set h1 h2) h2) h2) h2) h2)⟩
def s23_7_T : Bool × List (List Nat × List Nat) := (true, [([], []), ([0], [0]), ([], []), ([1, 2], [1, 2]), ([3], [3]), ([4], [4]), ([5], [5]), ([6, 5], [6]), ([7], [7]), ([8, 7], [7, 8]), ([7], [7]), ([9, 10, 7], [7, 9, 10]), ([7], [7]), ([12, 7], [7, 12]), ([7], [7]), ([13, 14, 7], [7, 13, 14]), ([15, 7], [7, 15]), ([11, 16, 7, 7], [7, 11, 16]), ([17, 7], [7, 17]), ([7, 18], [7, 18])])
theorem s23_7_tab : rtab .any (opsOf Tryd.f14 7) = s23_7_T := by kernel_rfl
def s23_13_T : Bool × List (List Nat × List Nat) := (true, [([], []), ([0], [0]), ([], []), ([2], [2]), ([1, 3], [1, 3]), ([4], [4]), ([5, 4], [5]), ([6], [6]), ([7, 6], [6, 7]), ([6], [6]), ([9, 6], [6, 9]), ([8, 10, 6, 6], [6, 8, 10]), ([11, 6], [6, 11]), ([6, 12], [6, 12]), ([13, 11], [13]), ([14], [14]), ([15, 14], [14, 15]), ([14], [14]), ([17, 14], [14, 17]), ([16, 18, 14], [14, 16, 18]), ([14, 19], [14, 19]), ([20, 14], [20]), ([21], [21]), ([22, 21], [21, 22]), ([23, 21, 21], [21, 23]), ([24, 21], [21, 24]), ([21, 25], [21, 25]), ([26, 24], [26]), ([27], [27]), ([28, 27], [27, 28]), ([27], [27]), ([29, 30, 27], [27, 29, 30]), ([27], [27]), ([32, 27], [27, 32]), ([27], [27]), ([34, 27], [27, 34]), ([31, 33, 35, 27, 27], [27, 31, 33, 35]), ([36, 27], [27, 36]), ([27, 37], [27, 37])])
theorem s23_13_tab : rtab .any (opsOf Tryd.f14 13) = s23_13_T := by kernel_rfl
set_option maxHeartbeats 16000000 in
set_option maxRecDepth 100000 in
theorem spec_NetOK.calls (k : Nat) (A0_0 : Option Addr) (c0_0 : Nat) (l0_0 : List ByteArray) (A0_1 : Option Addr) (c0_1 : Nat) (l0_1 : List S92) (A0_2 : Option Addr) (c0_2 : Nat) (l0_2 : List Int) (A0_3 : Option Addr) (c0_3 : Nat) (l0_3 : List Int) (A0_4 : Option Addr) (c0_4 : Nat) (l0_4 : List S95) (A0_5 : Option Addr) (c0_5 : Nat) (l0_5 : List S97) (r : Bool) (w : World) (hr0_0 : Kd.C Kd.string w A0_0 l0_0.length l0_0) (hc0_0 : l0_0.length ≤ c0_0) (hr0_1 : Kd.C k92 w A0_1 l0_1.length l0_1) (hc0_1 : l0_1.length ≤ c0_1) (hr0_2 : Kd.C (Kd.int .i64) w A0_2 l0_2.length l0_2) (hc0_2 : l0_2.length ≤ c0_2) (hr0_3 : Kd.C (Kd.int .i64) w A0_3 l0_3.length l0_3) (hc0_3 : l0_3.length ≤ c0_3) (hr0_4 : Kd.C k95 w A0_4 l0_4.length l0_4) (hc0_4 : l0_4.length ≤ c0_4) (hr0_5 : Kd.C k97 w A0_5 l0_5.length l0_5) (hc0_5 : l0_5.length ≤ c0_5) (h : spec_NetOK.f k l0_0 l0_1 l0_2 l0_3 l0_4 l0_5 = some r) :
  Calls Tryd.prog 14 #[.agg #[.slice A0_0 l0_0.length c0_0, .slice A0_1 l0_1.length c0_1, .slice A0_2 l0_2.length c0_2, .slice A0_3 l0_3.length c0_3, .slice A0_4 l0_4.length c0_4, .slice A0_5 l0_5.length c0_5]] w fun e w' => e = .returned (.bool r) ∧ Below w.heap.size w w' := by
 have hu38 := Tryd.underlying36
 have hu92 := Tryd.underlying62
 have hu95 := Tryd.underlying65
 have hu97 := Tryd.underlying67
 have HN : Aside0 (Kd.C Kd.string w A0_0 l0_0.length l0_0 ∧ l0_0.length ≤ c0_0 ∧ Kd.C k92 w A0_1 l0_1.length l0_1 ∧ l0_1.length ≤ c0_1 ∧ Kd.C (Kd.int .i64) w A0_2 l0_2.length l0_2 ∧ l0_2.length ≤ c0_2 ∧ Kd.C (Kd.int .i64) w A0_3 l0_3.length l0_3 ∧ l0_3.length ≤ c0_3 ∧ Kd.C k95 w A0_4 l0_4.length l0_4 ∧ l0_4.length ≤ c0_4 ∧ Kd.C k97 w A0_5 l0_5.length l0_5 ∧ l0_5.length ≤ c0_5) := ⟨hr0_0, hc0_0, hr0_1, hc0_1, hr0_2, hc0_2, hr0_3, hc0_3, hr0_4, hc0_4, hr0_5, hc0_5⟩
 have HM : Aside0 (l0_0.length ≤ 9223372036854775807 ∧ l0_1.length ≤ 9223372036854775807 ∧ l0_4.length ≤ 9223372036854775807 ∧ l0_5.length ≤ 9223372036854775807) := ⟨Kd.C_max hr0_0, Kd.C_max hr0_1, Kd.C_max hr0_4, Kd.C_max hr0_5⟩
 clear hr0_0 hc0_0 hr0_1 hc0_1 hr0_2 hc0_2 hr0_3 hc0_3 hr0_4 hc0_4 hr0_5 hc0_5
 have HB := aM (Below.refl w.heap.size w)
 unfold spec_NetOK.f at h
 have gi_ : ∃ gi, gi = inB (l0_0.length : Int) 1 4 := ⟨_, rfl⟩
 obtain ⟨gi, hgi⟩ := gi_
 rw [← hgi] at h
 obtain ⟨a, ha, h0, h⟩ := ifb h
 obtain ⟨b, hb, hF, hT⟩ : ∃ b, ((((((((!gi) || (decide (((l0_1.length : Int)) > 6))) || (decide (((l0_4.length : Int)) > 12))) || (decide (((l0_5.length : Int)) > 6))) || (!a)) == false)) = true → spec_l06Rising.f k l0_3 l0_0.length = some b) ∧ (((((((((!gi) || (decide (((l0_1.length : Int)) > 6))) || (decide (((l0_4.length : Int)) > 12))) || (decide (((l0_5.length : Int)) > 6))) || (!a)) || (!b)) || (decide (((l0_3.length : Int)) > 2)))) = true → r = false) ∧ (((((((((!gi) || (decide (((l0_1.length : Int)) > 6))) || (decide (((l0_4.length : Int)) > 12))) || (decide (((l0_5.length : Int)) > 6))) || (!a)) || (!b)) || (decide (((l0_3.length : Int)) > 2)))) = false → ((snamesO k l0_0 l0_0 0).bind fun t => if (!t) = true then some false else (slinksO k l0_0.length l0_1 l0_1 0).bind fun u => if (!u) = true then some false else (simpsO k l0_1 l0_4).bind fun v => if (!v) = true then some false else sfiltsO k l0_1 l0_5) = some r) := by
  cases hG : ((((!gi) || (decide (((l0_1.length : Int)) > 6))) || (decide (((l0_4.length : Int)) > 12))) || (decide (((l0_5.length : Int)) > 6))) with
  | true => exact ⟨true, (fun q => by simp only [hG, Bool.true_or] at q; cases q), (fun _ => h0 hG), (fun q => by simp only [hG, Bool.true_or] at q; cases q)⟩
  | false =>
   obtain ⟨b, hb, h1, h⟩ := ifb (h hG)
   cases a with
   | false => exact ⟨b, (fun q => by simp only [hG, Bool.not_false, Bool.or_true] at q; cases q), (fun _ => h1 rfl), (fun q => by simp only [hG, Bool.not_false, Bool.or_true, Bool.true_or] at q; cases q)⟩
   | true =>
    obtain ⟨h2, h3⟩ := ifz (h rfl)
    refine ⟨b, fun _ => hb rfl, (fun q => h2 ?_), (fun q => h3 ?_)⟩
    ·simpa only [hG, Bool.not_true, Bool.or_false, Bool.false_or] using q
    simpa only [hG, Bool.not_true, Bool.or_false, Bool.false_or] using q
 have HT := aM hT
 have HF := aM hF
 have HA : Aside0 (∀ V : World, Calls Tryd.prog 28 #[.int .i64 (l0_0.length : Int), .int .i64 1, .int .i64 4] V fun e W' => e = .returned (.bool gi) ∧ Drawn0 V W') := ⟨fun V => spec_l01In.calls (l0_0.length : Int) 1 4 _ V (by rw [hgi]; exact sin_is _ 1 4)⟩
 have HR2 : Aside0 (∀ V : World, Below w.heap.size w V → ((((((!gi) || (decide (((l0_1.length : Int)) > 6))) || (decide (((l0_4.length : Int)) > 12))) || (decide (((l0_5.length : Int)) > 6))) == false)) = true → Calls Tryd.prog 29 #[.slice A0_2 l0_2.length c0_2, .int .i64 (l0_0.length : Int)] V fun e W' => e = .returned (.bool a) ∧ Drawn0 V W') := ⟨fun V hV hG => spec_l06Rising.calls k A0_2 c0_2 l0_2 _ _ V (Kd.C_below HN.out.2.2.2.2.1 hV) HN.out.2.2.2.2.2.1 (ha hG)⟩
 have HR3 : Aside0 (∀ V : World, Below w.heap.size w V → (((((((!gi) || (decide (((l0_1.length : Int)) > 6))) || (decide (((l0_4.length : Int)) > 12))) || (decide (((l0_5.length : Int)) > 6))) || (!a)) == false)) = true → Calls Tryd.prog 29 #[.slice A0_3 l0_3.length c0_3, .int .i64 (l0_0.length : Int)] V fun e W' => e = .returned (.bool b) ∧ Drawn0 V W') := ⟨fun V hV hG => spec_l06Rising.calls k A0_3 c0_3 l0_3 _ _ V (Kd.C_below HN.out.2.2.2.2.2.2.1 hV) HN.out.2.2.2.2.2.2.2.1 (hb hG)⟩
 clear ha hb hT hF h h0 hgi
 go_enter Tryd.func14, Tryd.ntmps14
 go_upto_region 2 with (((with_reducible refine gate_dst (N := 1) rfl ?_); refine box_event rfl (N := 1) rfl (cs := #[.slice A0_0 l0_0.length c0_0, .slice A0_1 l0_1.length c0_1, .slice A0_2 l0_2.length c0_2, .slice A0_3 l0_3.length c0_3, .slice A0_4 l0_4.length c0_4, .slice A0_5 l0_5.length c0_5]) (t := 36) (by go_simp; done) ?_; intro gn hgn wn hbox hbb; have BN := aM (And.intro hbox (show w.heap.size ≤ gn by rw [hgn]; exact HB.out.size)); replace HB := aM (HB.out.trans (hbb.mono HB.out.size)); clear hbb hbox hgn; obtain ⟨hn0, hn1, hn2, hn3, hn4, hn5⟩ := swc6 BN.out.1))
 clear hn0 hn1 hn2 hn3 hn4 hn5
 have HW : ∀ W, Below wn.heap.size wn W → Below w.heap.size w W := fun W hW => HB.out.trans (hW.mono HB.out.size)
 have cN := fun (W : World) (hW : Below wn.heap.size wn W) => blk_below BN.out.1 hW
 refine seq_tail (R := []) [some 14, some 15, some 16, some 17, some 18, some 19, some 20, some 21, some 22, some 23, some 24, some 25, some 26, some 27, some 28, some 29, some 30, some 31, some 32, some 33, some 34, some 35, some 36, some 37, some 38, some 39, some 40, some 41, some 42, some 43, some 44, some 45, some 46, some 47, some 48, some 49, some 50, some 51, some 52, some 53, some 54] 218 41 [VP.eq (.int .i64 ((l0_0.length : Int))), VP.eq (.bool (gi)), VP.eq (.bool ((!gi))), VP.eq (.bool ((!gi))), VP.eq (cond (((!gi) == false)) (.pointer (some ⟨gn, 1, none⟩)) undef), VP.eq (cond (((!gi) == false)) (.slice A0_1 l0_1.length c0_1) undef), VP.eq (cond (((!gi) == false)) (.int .i64 ((l0_1.length : Int))) undef), VP.eq (cond (((!gi) == false)) (.bool ((decide (((l0_1.length : Int)) > 6)))) undef), VP.eq (.bool (((!gi) || (decide (((l0_1.length : Int)) > 6))))), VP.eq (.bool (((!gi) || (decide (((l0_1.length : Int)) > 6))))), VP.eq (cond ((((!gi) || (decide (((l0_1.length : Int)) > 6))) == false)) (.pointer (some ⟨gn, 4, none⟩)) undef), VP.eq (cond ((((!gi) || (decide (((l0_1.length : Int)) > 6))) == false)) (.slice A0_4 l0_4.length c0_4) undef), VP.eq (cond ((((!gi) || (decide (((l0_1.length : Int)) > 6))) == false)) (.int .i64 ((l0_4.length : Int))) undef), VP.eq (cond ((((!gi) || (decide (((l0_1.length : Int)) > 6))) == false)) (.bool ((decide (((l0_4.length : Int)) > 12)))) undef), VP.eq (.bool ((((!gi) || (decide (((l0_1.length : Int)) > 6))) || (decide (((l0_4.length : Int)) > 12))))), VP.eq (.bool ((((!gi) || (decide (((l0_1.length : Int)) > 6))) || (decide (((l0_4.length : Int)) > 12))))), VP.eq (cond (((((!gi) || (decide (((l0_1.length : Int)) > 6))) || (decide (((l0_4.length : Int)) > 12))) == false)) (.pointer (some ⟨gn, 5, none⟩)) undef), VP.eq (cond (((((!gi) || (decide (((l0_1.length : Int)) > 6))) || (decide (((l0_4.length : Int)) > 12))) == false)) (.slice A0_5 l0_5.length c0_5) undef), VP.eq (cond (((((!gi) || (decide (((l0_1.length : Int)) > 6))) || (decide (((l0_4.length : Int)) > 12))) == false)) (.int .i64 ((l0_5.length : Int))) undef), VP.eq (cond (((((!gi) || (decide (((l0_1.length : Int)) > 6))) || (decide (((l0_4.length : Int)) > 12))) == false)) (.bool ((decide (((l0_5.length : Int)) > 6)))) undef), VP.eq (.bool (((((!gi) || (decide (((l0_1.length : Int)) > 6))) || (decide (((l0_4.length : Int)) > 12))) || (decide (((l0_5.length : Int)) > 6))))), VP.eq (.bool (((((!gi) || (decide (((l0_1.length : Int)) > 6))) || (decide (((l0_4.length : Int)) > 12))) || (decide (((l0_5.length : Int)) > 6))))), VP.eq (cond ((((((!gi) || (decide (((l0_1.length : Int)) > 6))) || (decide (((l0_4.length : Int)) > 12))) || (decide (((l0_5.length : Int)) > 6))) == false)) (.pointer (some ⟨gn, 2, none⟩)) undef), VP.eq (cond ((((((!gi) || (decide (((l0_1.length : Int)) > 6))) || (decide (((l0_4.length : Int)) > 12))) || (decide (((l0_5.length : Int)) > 6))) == false)) (.slice A0_2 l0_2.length c0_2) undef), VP.eq (cond ((((((!gi) || (decide (((l0_1.length : Int)) > 6))) || (decide (((l0_4.length : Int)) > 12))) || (decide (((l0_5.length : Int)) > 6))) == false)) (.int .i64 ((l0_0.length : Int))) undef), VP.eq (cond ((((((!gi) || (decide (((l0_1.length : Int)) > 6))) || (decide (((l0_4.length : Int)) > 12))) || (decide (((l0_5.length : Int)) > 6))) == false)) (.bool (a)) undef), VP.eq (cond ((((((!gi) || (decide (((l0_1.length : Int)) > 6))) || (decide (((l0_4.length : Int)) > 12))) || (decide (((l0_5.length : Int)) > 6))) == false)) (.bool ((!a))) undef), VP.eq (.bool ((((((!gi) || (decide (((l0_1.length : Int)) > 6))) || (decide (((l0_4.length : Int)) > 12))) || (decide (((l0_5.length : Int)) > 6))) || (!a)))), VP.eq (.bool ((((((!gi) || (decide (((l0_1.length : Int)) > 6))) || (decide (((l0_4.length : Int)) > 12))) || (decide (((l0_5.length : Int)) > 6))) || (!a)))), VP.eq (cond (((((((!gi) || (decide (((l0_1.length : Int)) > 6))) || (decide (((l0_4.length : Int)) > 12))) || (decide (((l0_5.length : Int)) > 6))) || (!a)) == false)) (.pointer (some ⟨gn, 3, none⟩)) undef), VP.eq (cond (((((((!gi) || (decide (((l0_1.length : Int)) > 6))) || (decide (((l0_4.length : Int)) > 12))) || (decide (((l0_5.length : Int)) > 6))) || (!a)) == false)) (.slice A0_3 l0_3.length c0_3) undef), VP.eq (cond (((((((!gi) || (decide (((l0_1.length : Int)) > 6))) || (decide (((l0_4.length : Int)) > 12))) || (decide (((l0_5.length : Int)) > 6))) || (!a)) == false)) (.int .i64 ((l0_0.length : Int))) undef), VP.eq (cond (((((((!gi) || (decide (((l0_1.length : Int)) > 6))) || (decide (((l0_4.length : Int)) > 12))) || (decide (((l0_5.length : Int)) > 6))) || (!a)) == false)) (.bool (b)) undef), VP.eq (cond (((((((!gi) || (decide (((l0_1.length : Int)) > 6))) || (decide (((l0_4.length : Int)) > 12))) || (decide (((l0_5.length : Int)) > 6))) || (!a)) == false)) (.bool ((!b))) undef), VP.eq (.bool (((((((!gi) || (decide (((l0_1.length : Int)) > 6))) || (decide (((l0_4.length : Int)) > 12))) || (decide (((l0_5.length : Int)) > 6))) || (!a)) || (!b)))), VP.eq (.bool (((((((!gi) || (decide (((l0_1.length : Int)) > 6))) || (decide (((l0_4.length : Int)) > 12))) || (decide (((l0_5.length : Int)) > 6))) || (!a)) || (!b)))), VP.eq (cond ((((((((!gi) || (decide (((l0_1.length : Int)) > 6))) || (decide (((l0_4.length : Int)) > 12))) || (decide (((l0_5.length : Int)) > 6))) || (!a)) || (!b)) == false)) (.pointer (some ⟨gn, 3, none⟩)) undef), VP.eq (cond ((((((((!gi) || (decide (((l0_1.length : Int)) > 6))) || (decide (((l0_4.length : Int)) > 12))) || (decide (((l0_5.length : Int)) > 6))) || (!a)) || (!b)) == false)) (.slice A0_3 l0_3.length c0_3) undef), VP.eq (cond ((((((((!gi) || (decide (((l0_1.length : Int)) > 6))) || (decide (((l0_4.length : Int)) > 12))) || (decide (((l0_5.length : Int)) > 6))) || (!a)) || (!b)) == false)) (.int .i64 ((l0_3.length : Int))) undef), VP.eq (cond ((((((((!gi) || (decide (((l0_1.length : Int)) > 6))) || (decide (((l0_4.length : Int)) > 12))) || (decide (((l0_5.length : Int)) > 6))) || (!a)) || (!b)) == false)) (.bool ((decide (((l0_3.length : Int)) > 2)))) undef), VP.eq (.bool ((((((((!gi) || (decide (((l0_1.length : Int)) > 6))) || (decide (((l0_4.length : Int)) > 12))) || (decide (((l0_5.length : Int)) > 6))) || (!a)) || (!b)) || (decide (((l0_3.length : Int)) > 2)))))] rfl rfl (by kernel_rfl) rfl ⟨?_, ?_, ?_, ?_, ?_, ?_, ?_, ?_, ?_, ?_, ?_, ?_, ?_, ?_, ?_, ?_, ?_, ?_, ?_, ?_, ?_, ?_, ?_, ?_, ?_, ?_, ?_, ?_, ?_, ?_, ?_, ?_, ?_, ?_, ?_, ?_, ?_, ?_, ?_, ?_, ?_, trivial⟩ ?_
 ·exact fun _ W _ hW _ hb hd _ hK _ => gd_step (C := true) wn_ (fun _ => x_move rfl (hb 3)) (hK _ W rfl (Below.refl _ _))
 ·intro bq W B hW hB hb hd K hK hK2; exact gc_step (C := true) wn_ (fun _ => ⟨x_call Tryd.func28 (by kernel_rfl) rfl rfl (args3 (hd 0 14) rfl rfl), (HA.out W).mono (fun e_ W_ h_ => ⟨h_.1, h_.2.below⟩)⟩) (fun W_ hb_ => hK _ W_ rfl hb_)
 ·exact fun _ W _ hW _ hb hd _ hK _ => gd_step (C := true) wn_ (fun _ => x_not rfl (hd 1 15)) (hK _ W rfl (Below.refl _ _))
 ·exact fun _ W _ hW _ hb hd _ hK _ => gd_step (C := true) wn_ (fun _ => x_move rfl (hd 2 16)) (hK _ W rfl (Below.refl _ _))
 ·exact fun _ W _ hW _ hb hd _ hK _ => gd_step (wg0 (hd 3 17)) (fun hC => x_fa38 rfl (oD (by kernel_rfl)) (hb 1)) (hK _ W rfl (Below.refl _ _))
 ·exact fun _ W _ hW _ hb hd _ hK _ => gd_step (wg0 (hd 3 17)) (fun hC => x_ld34 rfl (cnd (hd 4 18) hC) ((blk_cell (cN W hW) 1).trans rfl)) (hK _ W rfl (Below.refl _ _))
 ·exact fun _ W _ hW _ hb hd _ hK _ => gd_step (wg0 (hd 3 17)) (fun hC => x_len Tryd.underlying32 rfl (cnd (hd 5 19) hC)) (hK _ W rfl (Below.refl _ _))
 ·exact fun _ W _ hW _ hb hd _ hK _ => gd_step (wg0 (hd 3 17)) (fun hC => x_gtr rfl (cnd (hd 6 20) hC) rfl) (hK _ W rfl (Below.refl _ _))
 ·exact fun _ W _ hW _ hb hd _ hK _ => gd_step (C := true) wn_ (fun _ => x_or rfl (hd 3 17) (hd 7 21)) (hK _ W rfl (Below.refl _ _))
 ·exact fun _ W _ hW _ hb hd _ hK _ => gd_step (C := true) wn_ (fun _ => x_move rfl (hd 8 22)) (hK _ W rfl (Below.refl _ _))
 ·exact fun _ W _ hW _ hb hd _ hK _ => gd_step (wg0 (hd 9 23)) (fun hC => x_fa38 rfl (oD (by kernel_rfl)) (hb 1)) (hK _ W rfl (Below.refl _ _))
 ·exact fun _ W _ hW _ hb hd _ hK _ => gd_step (wg0 (hd 9 23)) (fun hC => x_ld35 rfl (cnd (hd 10 24) hC) ((blk_cell (cN W hW) 4).trans rfl)) (hK _ W rfl (Below.refl _ _))
 ·exact fun _ W _ hW _ hb hd _ hK _ => gd_step (wg0 (hd 9 23)) (fun hC => x_len Tryd.underlying33 rfl (cnd (hd 11 25) hC)) (hK _ W rfl (Below.refl _ _))
 ·exact fun _ W _ hW _ hb hd _ hK _ => gd_step (wg0 (hd 9 23)) (fun hC => x_gtr rfl (cnd (hd 12 26) hC) rfl) (hK _ W rfl (Below.refl _ _))
 ·exact fun _ W _ hW _ hb hd _ hK _ => gd_step (C := true) wn_ (fun _ => x_or rfl (hd 9 23) (hd 13 27)) (hK _ W rfl (Below.refl _ _))
 ·exact fun _ W _ hW _ hb hd _ hK _ => gd_step (C := true) wn_ (fun _ => x_move rfl (hd 14 28)) (hK _ W rfl (Below.refl _ _))
 ·exact fun _ W _ hW _ hb hd _ hK _ => gd_step (wg0 (hd 15 29)) (fun hC => x_fa38 rfl (oD (by kernel_rfl)) (hb 1)) (hK _ W rfl (Below.refl _ _))
 ·exact fun _ W _ hW _ hb hd _ hK _ => gd_step (wg0 (hd 15 29)) (fun hC => x_ld36 rfl (cnd (hd 16 30) hC) ((blk_cell (cN W hW) 5).trans rfl)) (hK _ W rfl (Below.refl _ _))
 ·exact fun _ W _ hW _ hb hd _ hK _ => gd_step (wg0 (hd 15 29)) (fun hC => x_len Tryd.underlying34 rfl (cnd (hd 17 31) hC)) (hK _ W rfl (Below.refl _ _))
 ·exact fun _ W _ hW _ hb hd _ hK _ => gd_step (wg0 (hd 15 29)) (fun hC => x_gtr rfl (cnd (hd 18 32) hC) rfl) (hK _ W rfl (Below.refl _ _))
 ·exact fun _ W _ hW _ hb hd _ hK _ => gd_step (C := true) wn_ (fun _ => x_or rfl (hd 15 29) (hd 19 33)) (hK _ W rfl (Below.refl _ _))
 ·exact fun _ W _ hW _ hb hd _ hK _ => gd_step (C := true) wn_ (fun _ => x_move rfl (hd 20 34)) (hK _ W rfl (Below.refl _ _))
 ·exact fun _ W _ hW _ hb hd _ hK _ => gd_step (wg0 (hd 21 35)) (fun hC => x_fa38 rfl (oD (by kernel_rfl)) (hb 1)) (hK _ W rfl (Below.refl _ _))
 ·exact fun _ W _ hW _ hb hd _ hK _ => gd_step (wg0 (hd 21 35)) (fun hC => x_ld24 rfl (cnd (hd 22 36) hC) ((blk_cell (cN W hW) 2).trans rfl)) (hK _ W rfl (Below.refl _ _))
 ·exact fun _ W _ hW _ hb hd _ hK _ => gd_step (wg0 (hd 21 35)) (fun hC => x_move rfl (hb 3)) (hK _ W rfl (Below.refl _ _))
 ·intro bq W B hW hB hb hd K hK hK2; exact gc_step (wg0 (hd 21 35)) (fun hC => ⟨x_call Tryd.func29 (by kernel_rfl) rfl rfl (args2 (cnd (hd 23 37) hC) (cnd (hd 24 38) hC)), (HR2.out W (HW W hW) hC).mono (fun e_ W_ h_ => ⟨h_.1, h_.2.below⟩)⟩) (fun W_ hb_ => hK _ W_ rfl hb_)
 ·exact fun _ W _ hW _ hb hd _ hK _ => gd_step (wg0 (hd 21 35)) (fun hC => x_not rfl (cnd (hd 25 39) hC)) (hK _ W rfl (Below.refl _ _))
 ·exact fun _ W _ hW _ hb hd _ hK _ => gd_step (C := true) wn_ (fun _ => x_or rfl (hd 21 35) (hd 26 40)) (hK _ W rfl (Below.refl _ _))
 ·exact fun _ W _ hW _ hb hd _ hK _ => gd_step (C := true) wn_ (fun _ => x_move rfl (hd 27 41)) (hK _ W rfl (Below.refl _ _))
 ·exact fun _ W _ hW _ hb hd _ hK _ => gd_step (wg0 (hd 28 42)) (fun hC => x_fa38 rfl (oD (by kernel_rfl)) (hb 1)) (hK _ W rfl (Below.refl _ _))
 ·exact fun _ W _ hW _ hb hd _ hK _ => gd_step (wg0 (hd 28 42)) (fun hC => x_ld24 rfl (cnd (hd 29 43) hC) ((blk_cell (cN W hW) 3).trans rfl)) (hK _ W rfl (Below.refl _ _))
 ·exact fun _ W _ hW _ hb hd _ hK _ => gd_step (wg0 (hd 28 42)) (fun hC => x_move rfl (hb 3)) (hK _ W rfl (Below.refl _ _))
 ·intro bq W B hW hB hb hd K hK hK2; exact gc_step (wg0 (hd 28 42)) (fun hC => ⟨x_call Tryd.func29 (by kernel_rfl) rfl rfl (args2 (cnd (hd 30 44) hC) (cnd (hd 31 45) hC)), (HR3.out W (HW W hW) hC).mono (fun e_ W_ h_ => ⟨h_.1, h_.2.below⟩)⟩) (fun W_ hb_ => hK _ W_ rfl hb_)
 ·exact fun _ W _ hW _ hb hd _ hK _ => gd_step (wg0 (hd 28 42)) (fun hC => x_not rfl (cnd (hd 32 46) hC)) (hK _ W rfl (Below.refl _ _))
 ·exact fun _ W _ hW _ hb hd _ hK _ => gd_step (C := true) wn_ (fun _ => x_or rfl (hd 28 42) (hd 33 47)) (hK _ W rfl (Below.refl _ _))
 ·exact fun _ W _ hW _ hb hd _ hK _ => gd_step (C := true) wn_ (fun _ => x_move rfl (hd 34 48)) (hK _ W rfl (Below.refl _ _))
 ·exact fun _ W _ hW _ hb hd _ hK _ => gd_step (wg0 (hd 35 49)) (fun hC => x_fa38 rfl (oD (by kernel_rfl)) (hb 1)) (hK _ W rfl (Below.refl _ _))
 ·exact fun _ W _ hW _ hb hd _ hK _ => gd_step (wg0 (hd 35 49)) (fun hC => x_ld24 rfl (cnd (hd 36 50) hC) ((blk_cell (cN W hW) 3).trans rfl)) (hK _ W rfl (Below.refl _ _))
 ·exact fun _ W _ hW _ hb hd _ hK _ => gd_step (wg0 (hd 35 49)) (fun hC => x_len Tryd.underlying24 rfl (cnd (hd 37 51) hC)) (hK _ W rfl (Below.refl _ _))
 ·exact fun _ W _ hW _ hb hd _ hK _ => gd_step (wg0 (hd 35 49)) (fun hC => x_gtr rfl (cnd (hd 38 52) hC) rfl) (hK _ W rfl (Below.refl _ _))
 ·exact fun _ W _ hW _ hb hd _ hK _ => gd_step (C := true) wn_ (fun _ => x_or rfl (hd 35 49) (hd 39 53)) (hK _ W rfl (Below.refl _ _))
 intro vals F W B hF hW hBB hV
 have hf : vals 54 = .bool ((((((((!gi) || (decide (((l0_1.length : Int)) > 6))) || (decide (((l0_4.length : Int)) > 12))) || (decide (((l0_5.length : Int)) > 6))) || (!a)) || (!b)) || (decide (((l0_3.length : Int)) > 2)))) := hV 40 54 (oD (by kernel_rfl)) rfl
 have HB9 := aM (HW W hW)
 have BN9 := aM (And.intro (cN W hW) BN.out.2)
 clear HB BN
 have HB := HB9
 have BN := BN9
 clear HB9 BN9 hW HW cN
 rw [hF]
 clear hF hV hBB
 simp only [cond_true, List.take, fillA, Act.put, List.setIfInBounds_toArray, List.set_cons_zero, List.set_cons_succ, hf]
 clear hf
 cases hR : (((((((!gi) || (decide (((l0_1.length : Int)) > 6))) || (decide (((l0_4.length : Int)) > 12))) || (decide (((l0_5.length : Int)) > 6))) || (!a)) || (!b)) || (decide (((l0_3.length : Int)) > 2))) with
 | true =>
  obtain rfl := HF.out hR
  obtain ⟨hn0, hn1, hn2, hn3, hn4, hn5⟩ := swc6 BN.out.1
  go_wp2
  go_ret
  exact ⟨rfl, HB.out⟩
 | false =>
  have h := HT.out hR
  clear HT HF HA HR2 HR3
  replace h := Option.bind_eq_some_iff.1 h
  obtain ⟨t, hnm, h⟩ := h
  have H := aM h
  have HL : Aside0 (snamesO k l0_0 (l0_0.drop 0) 0 = some t) := ⟨by rw [List.drop_zero]; exact hnm⟩
  clear h hnm
  obtain ⟨hn0, hn1, hn2, hn3, hn4, hn5⟩ := swc6 BN.out.1
  go_wp2
  clear hn0 hn1 hn2 hn3 hn4 hn5
  go_loopg [4] l0_0.length (fun gg s4 wr => ∃ kk : Nat, kk ≤ l0_0.length ∧ l0_0.length - kk ≤ gg ∧ s4 = .int .i64 kk ∧ Aside0 (Below w.heap.size w wr) ∧ Aside0 (wr.heap[gn]? = some (.cells #[.slice A0_0 l0_0.length c0_0, .slice A0_1 l0_1.length c0_1, .slice A0_2 l0_2.length c0_2, .slice A0_3 l0_3.length c0_3, .slice A0_4 l0_4.length c0_4, .slice A0_5 l0_5.length c0_5] 36 (0, 0)) ∧ w.heap.size ≤ gn) ∧ Aside0 (snamesO k l0_0 (l0_0.drop kk) kk = some t))
  case atStart => exact ⟨0, Nat.zero_le _, by omega, rfl, HB, BN, HL⟩
  clear HL HB BN
  obtain ⟨kk, hkk, hg, rfl, HB, BN, HL⟩ := hrel
  have HM0 := HM.out.1
  have hN := HL.out
  clear HL
  by_cases hlt : kk < l0_0.length
  ·have hltz : (kk : Int) < (l0_0.length : Int) := by omega
   have HKS := aM (Kd.C_take (m := kk) HN.out.1 hkk)
   have HTK : Aside0 ((l0_0.take kk).length ≤ c0_0) := ⟨by rw [List.length_take]; exact Nat.le_trans (Nat.min_le_right _ _) HN.out.2.1⟩
   have hkc : kk ≤ c0_0 := Nat.le_trans hkk HN.out.2.1
   obtain ⟨ad, ea, hx⟩ := Kd.at_string HN.out.1 (kk : Int) (by omega) (by omega)
   cases ea
   rw [Int.toNat_natCast] at hx
   have hrd : rdOf ByteArray.empty l0_0 (kk : Int) = l0_0[kk] := by unfold rdOf; simp [List.getD, hlt]
   rw [hrd] at hx
   rw [List.drop_eq_getElem_cons hlt, snamesO] at hN
   have ew : IntKind.i64.wrap ((kk : Int) + 1) = ((kk + 1 : Nat) : Int) := IntWalk.i64_in _ (by omega)
   clear hrd
   generalize l0_0[kk] = y at hN hx
   replace hN := Option.bind_eq_some_iff.1 hN
   obtain ⟨a, ha, hN⟩ := hN
   obtain ⟨u, hu, h1, h2⟩ := ifb hN
   have HF : Aside0 (((!a) || (decide (u ≥ 0))) = true → t = false) := ⟨fun q => orT q h1 (fun e q => (ifz (h2 e)).1 q)⟩
   have HT : Aside0 (((!a) || (decide (u ≥ 0))) = false → snamesO k l0_0 (l0_0.drop (kk + 1)) (kk + 1) = some t) := ⟨fun q => (ifz (h2 (orF1 q))).2 (orF2 q)⟩
   have HA : Aside0 (∀ V : World, Calls Tryd.prog 30 #[.string y] V fun e W' => e = .returned (.bool a) ∧ Drawn0 V W') := ⟨fun V => spec_NameOK.calls k y a V ha⟩
   have HC : Aside0 (∀ V : World, Below w.heap.size w V → ((!a) == false) = true → Calls Tryd.prog 31 #[.slice (some ad) kk c0_0, .string y] V fun e w' => e = .returned (.int .i64 u) ∧ Drawn0 V w') := ⟨fun V hV hG => by
    have q := spec_l06Place.calls k (some ad) c0_0 (l0_0.take kk) y _ V (Kd.C_below HKS.out hV) HTK.out (hu hG)
    rw [List.length_take, Nat.min_eq_left hkk] at q
    exact q⟩
   have HXC := aM hx
   clear ha hN hu h1 h2 hx
   go_wp2
   have HW : ∀ W, Below wr.drew.heap.size wr.drew W → Below w.heap.size w W := fun W hW => (below_drew1 HB.out).trans (hW.mono HB.out.size)
   have cN := fun (W : World) (hW : Below wr.drew.heap.size wr.drew W) => blk_below (blk_drew BN.out.1) hW
   refine any_tail [some 60, some 61, some 62, some 63, some 64, some 65, some 66, some 67, some 68, some 69, some 70, some 71, some 72, some 73, some 74, some 75, some 76, some 77, some 78, some 79] 218 19 [0, 1, 0, 7, 15, 31, 63, 127, 255, 511, 255, 2047, 255, 4351, 255, 28927, 61695, 131071, 262143, 524287] [VP.eq (.pointer (some ⟨gn, 0, none⟩)), VP.eq (.slice (some ad) l0_0.length c0_0), VP.eq (.int .i64 ((kk : Int))), VP.eq (.pointer (some (ad.add kk))), VP.eq (.string y), VP.eq (.bool (a)), VP.eq (.bool ((!a))), VP.eq (.bool ((!a))), VP.eq (cond (((!a) == false)) (.pointer (some ⟨gn, 0, none⟩)) undef), VP.eq (cond (((!a) == false)) (.slice (some ad) l0_0.length c0_0) undef), VP.eq (cond (((!a) == false)) (.int .i64 ((kk : Int))) undef), VP.eq (cond (((!a) == false)) (.slice (some ad) kk c0_0) undef), VP.eq (cond (((!a) == false)) (.pointer (some ⟨gn, 0, none⟩)) undef), VP.eq (cond (((!a) == false)) (.slice (some ad) l0_0.length c0_0) undef), VP.eq (cond (((!a) == false)) (.int .i64 ((kk : Int))) undef), VP.eq (cond (((!a) == false)) (.pointer (some (ad.add kk))) undef), VP.eq (cond (((!a) == false)) (.string y) undef), VP.eq (cond (((!a) == false)) (.int .i64 (u)) undef), VP.eq (cond (((!a) == false)) (.bool ((decide (u ≥ 0)))) undef)] rfl s23_7_tab rfl rfl (by kernel_rfl) rfl ⟨?_, ?_, ?_, ?_, ?_, ?_, ?_, ?_, ?_, ?_, ?_, ?_, ?_, ?_, ?_, ?_, ?_, ?_, ?_, trivial⟩ ?_
   ·exact fun _ W _ hW _ hb hd _ hK _ => gd_step (C := true) wn_ (fun _ => x_fa38 rfl (oD (by kernel_rfl)) (hb 1)) (hK _ W rfl (Below.refl _ _))
   ·exact fun _ W _ hW _ hb hd _ hK _ => gd_step (C := true) wn_ (fun _ => x_ld22 rfl (hd 0 60) ((blk_cell (cN W hW) 0).trans rfl)) (hK _ W rfl (Below.refl _ _))
   ·exact fun _ W _ hW _ hb hd _ hK _ => gd_step (C := true) wn_ (fun _ => x_move rfl (hb 4)) (hK _ W rfl (Below.refl _ _))
   ·exact fun _ W _ hW _ hb hd _ hK _ => gd_step (C := true) wn_ (fun _ => x_ix22 rfl (hd 1 61) (hd 2 62) hlt HM0) (hK _ W rfl (Below.refl _ _))
   ·exact fun _ W _ hW _ hb hd _ hK _ => gd_step (C := true) wn_ (fun _ => x_ld9 rfl (hd 3 63) (((HW W hW).cell (World.block_lt_of_cell? w _ HXC.out)).trans HXC.out)) (hK _ W rfl (Below.refl _ _))
   ·intro bq W B hW hB hb hd K hK hK2; exact gc_step (C := true) wn_ (fun _ => ⟨x_call Tryd.func30 (by kernel_rfl) rfl rfl (args1 (hd 4 64)), (HA.out W).mono (fun e_ W_ h_ => ⟨h_.1, h_.2.below⟩)⟩) (fun W_ hb_ => hK _ W_ rfl hb_)
   ·exact fun _ W _ hW _ hb hd _ hK _ => gd_step (C := true) wn_ (fun _ => x_not rfl (hd 5 65)) (hK _ W rfl (Below.refl _ _))
   ·exact fun _ W _ hW _ hb hd _ hK _ => gd_step (C := true) wn_ (fun _ => x_move rfl (hd 6 66)) (hK _ W rfl (Below.refl _ _))
   ·exact fun _ W _ hW _ hb hd _ hK _ => gd_step (wg0 (hd 7 67)) (fun hC => x_fa38 rfl (oD (by kernel_rfl)) (hb 1)) (hK _ W rfl (Below.refl _ _))
   ·exact fun _ W _ hW _ hb hd _ hK _ => gd_step (wg0 (hd 7 67)) (fun hC => x_ld22 rfl (cnd (hd 8 68) hC) ((blk_cell (cN W hW) 0).trans rfl)) (hK _ W rfl (Below.refl _ _))
   ·exact fun _ W _ hW _ hb hd _ hK _ => gd_step (wg0 (hd 7 67)) (fun hC => x_move rfl (hb 4)) (hK _ W rfl (Below.refl _ _))
   ·exact fun _ W _ hW _ hb hd _ hK _ => gd_step (wg0 (hd 7 67)) (fun hC => x_slhi22 rfl (cnd (hd 9 69) hC) (cnd (hd 10 70) hC) hkc) (hK _ W rfl (Below.refl _ _))
   ·exact fun _ W _ hW _ hb hd _ hK _ => gd_step (wg0 (hd 7 67)) (fun hC => x_fa38 rfl (oD (by kernel_rfl)) (hb 1)) (hK _ W rfl (Below.refl _ _))
   ·exact fun _ W _ hW _ hb hd _ hK _ => gd_step (wg0 (hd 7 67)) (fun hC => x_ld22 rfl (cnd (hd 12 72) hC) ((blk_cell (cN W hW) 0).trans rfl)) (hK _ W rfl (Below.refl _ _))
   ·exact fun _ W _ hW _ hb hd _ hK _ => gd_step (wg0 (hd 7 67)) (fun hC => x_move rfl (hb 4)) (hK _ W rfl (Below.refl _ _))
   ·exact fun _ W _ hW _ hb hd _ hK _ => gd_step (wg0 (hd 7 67)) (fun hC => x_ix22 rfl (cnd (hd 13 73) hC) (cnd (hd 14 74) hC) hlt HM0) (hK _ W rfl (Below.refl _ _))
   ·exact fun _ W _ hW _ hb hd _ hK _ => gd_step (wg0 (hd 7 67)) (fun hC => x_ld9 rfl (cnd (hd 15 75) hC) (((HW W hW).cell (World.block_lt_of_cell? w _ HXC.out)).trans HXC.out)) (hK _ W rfl (Below.refl _ _))
   ·intro bq W B hW hB hb hd K hK hK2; exact gc_step (wg0 (hd 7 67)) (fun hC => ⟨x_call Tryd.func31 (by kernel_rfl) rfl rfl (args2 (cnd (hd 11 71) hC) (cnd (hd 16 76) hC)), (HC.out W (HW W hW) hC).mono (fun e_ W_ h_ => ⟨h_.1, h_.2.below⟩)⟩) (fun W_ hb_ => hK _ W_ rfl hb_)
   ·exact fun _ W _ hW _ hb hd _ hK _ => gd_step (wg0 (hd 7 67)) (fun hC => x_geq rfl (cnd (hd 17 77) hC) rfl) (hK _ W rfl (Below.refl _ _))
   intro vals F W B hF hW hBB hV
   refine last_step (C := true) (u := .bool (((!a) || (decide (u ≥ 0))))) wn_ (fun _ => x_or rfl (((congrArg (fun q_ : Act => q_.eval (.tmp 67)) hF).trans (fillA_i (n := 218) (by kernel_rfl) rfl (by kernel_rfl))).trans (hV 7 67 (oD (by kernel_rfl)) rfl)) (((congrArg (fun q_ : Act => q_.eval (.tmp 78)) hF).trans (fillA_i (n := 218) (by kernel_rfl) rfl (by kernel_rfl))).trans (hV 18 78 (oD (by kernel_rfl)) rfl))) ?_
   have HB9 := aM (HW W hW)
   have BN9 := aM (And.intro (cN W hW) BN.out.2)
   clear HB BN
   have HB := HB9
   have BN := BN9
   clear HB9 BN9 hW HW cN
   rw [hF]
   clear hF hV hBB
   simp only [cond_true, List.take, fillA, Act.put, List.setIfInBounds_toArray, List.set_cons_zero, List.set_cons_succ]
   cases hR : ((!a) || (decide (u ≥ 0))) with
   | true =>
    obtain ⟨hn0, hn1, hn2, hn3, hn4, hn5⟩ := swc6 BN.out.1
    have hN : t = false := HF.out hR
    subst hN
    obtain rfl := (ifz H.out).1 rfl
    go_wp2
    go_ret
    exact ⟨rfl, HB.out⟩
   | false =>
    obtain ⟨hn0, hn1, hn2, hn3, hn4, hn5⟩ := swc6 BN.out.1
    have HL := aM (HT.out hR)
    clear HT HF
    go_wp2
    go_roundg (l0_0.length - (kk + 1))
    case measure => omega
    case rel => exact ⟨kk + 1, by omega, by omega, by go_num, HB, BN, HL⟩
  have hltz : ¬ (kk : Int) < (l0_0.length : Int) := by omega
  obtain rfl : kk = l0_0.length := by omega
  rw [List.drop_length, snamesO] at hN
  obtain rfl := Option.some.inj hN
  have h := (ifz H.out).2 rfl
  clear H hN
  replace h := Option.bind_eq_some_iff.1 h
  obtain ⟨t2, hnm, h⟩ := h
  have H := aM h
  have HL : Aside0 (slinksO k l0_0.length l0_1 (l0_1.drop 0) 0 = some t2) := ⟨by rw [List.drop_zero]; exact hnm⟩
  clear h hnm
  obtain ⟨hn0, hn1, hn2, hn3, hn4, hn5⟩ := swc6 BN.out.1
  go_wp2
  clear hn0 hn1 hn2 hn3 hn4 hn5
  go_loopg [5] l0_1.length (fun gg s5 wr => ∃ kk : Nat, kk ≤ l0_1.length ∧ l0_1.length - kk ≤ gg ∧ s5 = .int .i64 kk ∧ Aside0 (Below w.heap.size w wr) ∧ Aside0 (wr.heap[gn]? = some (.cells #[.slice A0_0 l0_0.length c0_0, .slice A0_1 l0_1.length c0_1, .slice A0_2 l0_2.length c0_2, .slice A0_3 l0_3.length c0_3, .slice A0_4 l0_4.length c0_4, .slice A0_5 l0_5.length c0_5] 36 (0, 0)) ∧ w.heap.size ≤ gn) ∧ Aside0 (slinksO k l0_0.length l0_1 (l0_1.drop kk) kk = some t2))
  case atStart => exact ⟨0, Nat.zero_le _, by omega, rfl, HB, BN, HL⟩
  clear HL HB BN
  obtain ⟨kk, hkk, hg, rfl, HB, BN, HL⟩ := hrel
  have HM0 := HM.out.2.1
  have hN := HL.out
  clear HL
  by_cases hlt : kk < l0_1.length
  ·have hltz : (kk : Int) < (l0_1.length : Int) := by omega
   have hkc0 : (0 : Int) ≤ (kk : Int) := Int.natCast_nonneg _
   have HKS := aM (Kd.C_take (m := kk) HN.out.2.2.1 hkk)
   have HTK : Aside0 ((l0_1.take kk).length ≤ c0_1) := ⟨by rw [List.length_take]; exact Nat.le_trans (Nat.min_le_right _ _) HN.out.2.2.2.1⟩
   have hkc : kk ≤ c0_1 := Nat.le_trans hkk HN.out.2.2.2.1
   have HM9 := HM.out.1
   have ew2 : IntKind.i64.wrap ((l0_0.length : Int) - 1) = (l0_0.length : Int) - 1 := IntWalk.i64_in _ (by omega)
   obtain ⟨ad, ea, hx0, hx1, hx2⟩ := at_T92 HN.out.2.2.1 (kk : Int) (by omega) (by omega)
   cases ea
   rw [Int.toNat_natCast] at hx0 hx1 hx2
   replace hx0 := swB HB.out hx0
   replace hx1 := swB HB.out hx1
   replace hx2 := swB HB.out hx2
   have hrd : rd_T92 l0_1 (kk : Int) = l0_1[kk] := by unfold rd_T92; simp [List.getD, hlt]
   rw [hrd] at hx0 hx1 hx2
   rw [List.drop_eq_getElem_cons hlt, slinksO] at hN
   have ew : IntKind.i64.wrap ((kk : Int) + 1) = ((kk + 1 : Nat) : Int) := IntWalk.i64_in _ (by omega)
   clear hrd
   generalize l0_1[kk] = x at hN hx0 hx1 hx2
   obtain ⟨x0, x1, x2⟩ := x
   dsimp only at hN hx0 hx1 hx2
   have HA : Aside0 (∀ V : World, Calls Tryd.prog 28 #[.int .i64 x0, .int .i64 0, .int .i64 ((l0_0.length : Int) - 1)] V fun e W' => e = .returned (.bool (inB x0 0 ((l0_0.length : Int) - 1))) ∧ Drawn0 V W') := ⟨fun V => spec_l01In.calls x0 0 ((l0_0.length : Int) - 1) _ V (sin_is x0 0 ((l0_0.length : Int) - 1))⟩
   have HBb : Aside0 (∀ V : World, Calls Tryd.prog 28 #[.int .i64 x1, .int .i64 0, .int .i64 ((l0_0.length : Int) - 1)] V fun e W' => e = .returned (.bool (inB x1 0 ((l0_0.length : Int) - 1))) ∧ Drawn0 V W') := ⟨fun V => spec_l01In.calls x1 0 ((l0_0.length : Int) - 1) _ V (sin_is x1 0 ((l0_0.length : Int) - 1))⟩
   have HC : Aside0 (∀ V : World, Calls Tryd.prog 28 #[.int .i64 x2, .int .i64 1, .int .i64 100] V fun e W' => e = .returned (.bool (inB x2 1 100)) ∧ Drawn0 V W') := ⟨fun V => spec_l01In.calls x2 1 100 _ V (sin_is x2 1 100)⟩
   generalize inB x0 0 ((l0_0.length : Int) - 1) = ra at hN HA
   generalize inB x1 0 ((l0_0.length : Int) - 1) = rb at hN HBb
   generalize inB x2 1 100 = rc at hN HC
   obtain ⟨u, hu, h1, h2⟩ := ifb hN
   have HF : Aside0 ((((((!ra) || (!rb)) || (x0 == x1)) || (!rc)) || (decide (u ≥ 0))) = true → t2 = false) := ⟨fun q => orT q h1 (fun e q => (ifz (h2 e)).1 q)⟩
   have HT : Aside0 ((((((!ra) || (!rb)) || (x0 == x1)) || (!rc)) || (decide (u ≥ 0))) = false → slinksO k l0_0.length l0_1 (l0_1.drop (kk + 1)) (kk + 1) = some t2) := ⟨fun q => (ifz (h2 (orF1 q))).2 (orF2 q)⟩
   have HCT : Aside0 (∀ V : World, Below w.heap.size w V → (((((!ra) || (!rb)) || (x0 == x1)) || (!rc)) == false) = true → Calls Tryd.prog 32 #[.slice (some ad) kk c0_1, .int .i64 x0, .int .i64 x1] V fun e w' => e = .returned (.int .i64 u) ∧ Drawn0 V w') := ⟨fun V hV hG => by
    have q := spec_l06Link.calls k (some ad) c0_1 (l0_1.take kk) x0 x1 _ V (Kd.C_below HKS.out hV) HTK.out (hu hG)
    rw [List.length_take, Nat.min_eq_left hkk] at q
    exact q⟩
   clear hu hN h1 h2
   obtain ⟨hn0, hn1, hn2, hn3, hn4, hn5⟩ := swc6 BN.out.1
   go_wp2_with (first | ((with_reducible refine gate_dst (N := 6) rfl ?_); refine box_event rfl (N := 6) rfl (cs := #[.int .i64 0, .int .i64 0, .int .i64 0]) (t := 62) (by go_simp; done) ?_; intro g6 hg6 w6 hbox hbb; have HX := aM (And.intro hbox (And.intro (show w.heap.size ≤ g6 by rw [hg6]; exact HB.out.size) (show gn ≠ g6 by rw [hg6]; exact Nat.ne_of_lt (blk_lt BN.out.1)))); clear hn0 hn1 hn2 hn3 hn4 hn5; clear hx0 hx1 hx2; replace HB := aM (HB.out.trans (hbb.mono HB.out.size)); replace BN := aM (And.intro (blk_below BN.out.1 hbb) BN.out.2); clear hbb hbox hg6) | ((with_reducible refine gate_store (t := 62) (p := 6) rfl ?_); obtain ⟨hc0, hc1, hc2⟩ := swc3 HX.out.1; have hf0 := blk_frozen HX.out.1 0; have hf1 := blk_frozen HX.out.1 1; have hf2 := blk_frozen HX.out.1 2; refine store_event (t := 62) (p := 6) (v := .tmp 91) (w1 := (((w6.setCell ⟨g6, 0, none⟩ (.int .i64 x0)).setCell ⟨g6, 1, none⟩ (.int .i64 x1)).setCell ⟨g6, 2, none⟩ (.int .i64 x2))) ?hg ?ho ?hn ?hr ?_; (case ho => rfl); (case hg => rfl); (case hn => rfl); (case hr => (go_simp; done)); clear hc0 hf0 hc1 hf1 hc2 hf2; intro w7 hw_; obtain ⟨hbk, hkb, hkw⟩ := boxi3 (a0 := x0) (a1 := x1) (a2 := x2) HX.out.1; rw [← hw_] at hbk hkb hkw; clear hw_; replace HB := aM (hkw _ HB.out HX.out.2.1); replace BN := aM (And.intro (blk_kept BN.out.1 hkb (fun h_ => HX.out.2.2 h_)) BN.out.2); replace HX := aM (And.intro hbk HX.out.2); clear hbk hkb hkw; obtain ⟨hn0, hn1, hn2, hn3, hn4, hn5⟩ := swc6 BN.out.1; obtain ⟨hx0, hx1, hx2⟩ := swc3 HX.out.1))
   clear hx0 hx1 hx2 hn0 hn1 hn2 hn3 hn4 hn5
   have HW : ∀ W, Below w7.drew.heap.size w7.drew W → Below w.heap.size w W := fun W hW => (below_drew1 HB.out).trans (hW.mono HB.out.size)
   have cN := fun (W : World) (hW : Below w7.drew.heap.size w7.drew W) => blk_below (blk_drew BN.out.1) hW
   have cX := fun (W : World) (hW : Below w7.drew.heap.size w7.drew W) => blk_below (blk_drew HX.out.1) hW
   refine any_tail [some 92, some 93, some 94, some 95, some 96, some 97, some 98, some 99, some 100, some 101, some 102, some 103, some 104, some 105, some 106, some 107, some 108, some 109, some 110, some 111, some 112, some 113, some 114, some 115, some 116, some 117, some 118, some 119, some 120, some 121, some 122, some 123, some 124, some 125, some 126, some 127, some 128, some 129, some 130] 218 38 [0, 1, 0, 4, 15, 31, 63, 127, 255, 127, 639, 2047, 4095, 8191, 16383, 32767, 65535, 32767, 163839, 524287, 1048575, 2097151, 4194303, 8388607, 16777215, 33554431, 67108863, 134217727, 268435455, 536870911, 268435455, 2147483647, 268435455, 4563402751, 268435455, 17448304639, 68719476735, 137438953471, 274877906943] [VP.eq (.pointer (some ⟨g6, 0, none⟩)), VP.eq (.int .i64 (x0)), VP.eq (.int .i64 ((l0_0.length : Int))), VP.eq (.int .i64 (((l0_0.length : Int) - 1))), VP.eq (.bool (ra)), VP.eq (.bool ((!ra))), VP.eq (.bool ((!ra))), VP.eq (cond (((!ra) == false)) (.pointer (some ⟨g6, 1, none⟩)) undef), VP.eq (cond (((!ra) == false)) (.int .i64 (x1)) undef), VP.eq (cond (((!ra) == false)) (.int .i64 ((l0_0.length : Int))) undef), VP.eq (cond (((!ra) == false)) (.int .i64 (((l0_0.length : Int) - 1))) undef), VP.eq (cond (((!ra) == false)) (.bool (rb)) undef), VP.eq (cond (((!ra) == false)) (.bool ((!rb))) undef), VP.eq (.bool (((!ra) || (!rb)))), VP.eq (.bool (((!ra) || (!rb)))), VP.eq (cond ((((!ra) || (!rb)) == false)) (.pointer (some ⟨g6, 0, none⟩)) undef), VP.eq (cond ((((!ra) || (!rb)) == false)) (.int .i64 (x0)) undef), VP.eq (cond ((((!ra) || (!rb)) == false)) (.pointer (some ⟨g6, 1, none⟩)) undef), VP.eq (cond ((((!ra) || (!rb)) == false)) (.int .i64 (x1)) undef), VP.eq (cond ((((!ra) || (!rb)) == false)) (.bool ((x0 == x1))) undef), VP.eq (.bool ((((!ra) || (!rb)) || (x0 == x1)))), VP.eq (.bool ((((!ra) || (!rb)) || (x0 == x1)))), VP.eq (cond (((((!ra) || (!rb)) || (x0 == x1)) == false)) (.pointer (some ⟨g6, 2, none⟩)) undef), VP.eq (cond (((((!ra) || (!rb)) || (x0 == x1)) == false)) (.int .i64 (x2)) undef), VP.eq (cond (((((!ra) || (!rb)) || (x0 == x1)) == false)) (.bool (rc)) undef), VP.eq (cond (((((!ra) || (!rb)) || (x0 == x1)) == false)) (.bool ((!rc))) undef), VP.eq (.bool (((((!ra) || (!rb)) || (x0 == x1)) || (!rc)))), VP.eq (.bool (((((!ra) || (!rb)) || (x0 == x1)) || (!rc)))), VP.eq (cond ((((((!ra) || (!rb)) || (x0 == x1)) || (!rc)) == false)) (.pointer (some ⟨gn, 1, none⟩)) undef), VP.eq (cond ((((((!ra) || (!rb)) || (x0 == x1)) || (!rc)) == false)) (.slice (some ad) l0_1.length c0_1) undef), VP.eq (cond ((((((!ra) || (!rb)) || (x0 == x1)) || (!rc)) == false)) (.int .i64 ((kk : Int))) undef), VP.eq (cond ((((((!ra) || (!rb)) || (x0 == x1)) || (!rc)) == false)) (.slice (some ad) kk c0_1) undef), VP.eq (cond ((((((!ra) || (!rb)) || (x0 == x1)) || (!rc)) == false)) (.pointer (some ⟨g6, 0, none⟩)) undef), VP.eq (cond ((((((!ra) || (!rb)) || (x0 == x1)) || (!rc)) == false)) (.int .i64 (x0)) undef), VP.eq (cond ((((((!ra) || (!rb)) || (x0 == x1)) || (!rc)) == false)) (.pointer (some ⟨g6, 1, none⟩)) undef), VP.eq (cond ((((((!ra) || (!rb)) || (x0 == x1)) || (!rc)) == false)) (.int .i64 (x1)) undef), VP.eq (cond ((((((!ra) || (!rb)) || (x0 == x1)) || (!rc)) == false)) (.int .i64 (u)) undef), VP.eq (cond ((((((!ra) || (!rb)) || (x0 == x1)) || (!rc)) == false)) (.bool ((decide (u ≥ 0)))) undef)] rfl s23_13_tab rfl rfl (by kernel_rfl) rfl ⟨?_, ?_, ?_, ?_, ?_, ?_, ?_, ?_, ?_, ?_, ?_, ?_, ?_, ?_, ?_, ?_, ?_, ?_, ?_, ?_, ?_, ?_, ?_, ?_, ?_, ?_, ?_, ?_, ?_, ?_, ?_, ?_, ?_, ?_, ?_, ?_, ?_, ?_, trivial⟩ ?_
   ·exact fun _ W _ hW _ hb hd _ hK _ => gd_step (C := true) wn_ (fun _ => x_fa92 rfl (oD (by kernel_rfl)) (hb 6)) (hK _ W rfl (Below.refl _ _))
   ·exact fun _ W _ hW _ hb hd _ hK _ => gd_step (C := true) wn_ (fun _ => x_ld3 rfl (hd 0 92) ((blk_cell (cX W hW) 0).trans rfl)) (hK _ W rfl (Below.refl _ _))
   ·exact fun _ W _ hW _ hb hd _ hK _ => gd_step (C := true) wn_ (fun _ => x_move rfl (hb 3)) (hK _ W rfl (Below.refl _ _))
   ·exact fun _ W _ hW _ hb hd _ hK _ => gd_step (C := true) wn_ (fun _ => x_sub rfl (hd 2 94) rfl ew2) (hK _ W rfl (Below.refl _ _))
   ·intro bq W B hW hB hb hd K hK hK2; exact gc_step (C := true) wn_ (fun _ => ⟨x_call Tryd.func28 (by kernel_rfl) rfl rfl (args3 (hd 1 93) rfl (hd 3 95)), (HA.out W).mono (fun e_ W_ h_ => ⟨h_.1, h_.2.below⟩)⟩) (fun W_ hb_ => hK _ W_ rfl hb_)
   ·exact fun _ W _ hW _ hb hd _ hK _ => gd_step (C := true) wn_ (fun _ => x_not rfl (hd 4 96)) (hK _ W rfl (Below.refl _ _))
   ·exact fun _ W _ hW _ hb hd _ hK _ => gd_step (C := true) wn_ (fun _ => x_move rfl (hd 5 97)) (hK _ W rfl (Below.refl _ _))
   ·exact fun _ W _ hW _ hb hd _ hK _ => gd_step (wg0 (hd 6 98)) (fun hC => x_fa92 rfl (oD (by kernel_rfl)) (hb 6)) (hK _ W rfl (Below.refl _ _))
   ·exact fun _ W _ hW _ hb hd _ hK _ => gd_step (wg0 (hd 6 98)) (fun hC => x_ld3 rfl (cnd (hd 7 99) hC) ((blk_cell (cX W hW) 1).trans rfl)) (hK _ W rfl (Below.refl _ _))
   ·exact fun _ W _ hW _ hb hd _ hK _ => gd_step (wg0 (hd 6 98)) (fun hC => x_move rfl (hb 3)) (hK _ W rfl (Below.refl _ _))
   ·exact fun _ W _ hW _ hb hd _ hK _ => gd_step (wg0 (hd 6 98)) (fun hC => x_sub rfl (cnd (hd 9 101) hC) rfl ew2) (hK _ W rfl (Below.refl _ _))
   ·intro bq W B hW hB hb hd K hK hK2; exact gc_step (wg0 (hd 6 98)) (fun hC => ⟨x_call Tryd.func28 (by kernel_rfl) rfl rfl (args3 (cnd (hd 8 100) hC) rfl (cnd (hd 10 102) hC)), (HBb.out W).mono (fun e_ W_ h_ => ⟨h_.1, h_.2.below⟩)⟩) (fun W_ hb_ => hK _ W_ rfl hb_)
   ·exact fun _ W _ hW _ hb hd _ hK _ => gd_step (wg0 (hd 6 98)) (fun hC => x_not rfl (cnd (hd 11 103) hC)) (hK _ W rfl (Below.refl _ _))
   ·exact fun _ W _ hW _ hb hd _ hK _ => gd_step (C := true) wn_ (fun _ => x_or rfl (hd 6 98) (hd 12 104)) (hK _ W rfl (Below.refl _ _))
   ·exact fun _ W _ hW _ hb hd _ hK _ => gd_step (C := true) wn_ (fun _ => x_move rfl (hd 13 105)) (hK _ W rfl (Below.refl _ _))
   ·exact fun _ W _ hW _ hb hd _ hK _ => gd_step (wg0 (hd 14 106)) (fun hC => x_fa92 rfl (oD (by kernel_rfl)) (hb 6)) (hK _ W rfl (Below.refl _ _))
   ·exact fun _ W _ hW _ hb hd _ hK _ => gd_step (wg0 (hd 14 106)) (fun hC => x_ld3 rfl (cnd (hd 15 107) hC) ((blk_cell (cX W hW) 0).trans rfl)) (hK _ W rfl (Below.refl _ _))
   ·exact fun _ W _ hW _ hb hd _ hK _ => gd_step (wg0 (hd 14 106)) (fun hC => x_fa92 rfl (oD (by kernel_rfl)) (hb 6)) (hK _ W rfl (Below.refl _ _))
   ·exact fun _ W _ hW _ hb hd _ hK _ => gd_step (wg0 (hd 14 106)) (fun hC => x_ld3 rfl (cnd (hd 17 109) hC) ((blk_cell (cX W hW) 1).trans rfl)) (hK _ W rfl (Below.refl _ _))
   ·exact fun _ W _ hW _ hb hd _ hK _ => gd_step (wg0 (hd 14 106)) (fun hC => x_eql rfl (cnd (hd 16 108) hC) (cnd (hd 18 110) hC)) (hK _ W rfl (Below.refl _ _))
   ·exact fun _ W _ hW _ hb hd _ hK _ => gd_step (C := true) wn_ (fun _ => x_or rfl (hd 14 106) (hd 19 111)) (hK _ W rfl (Below.refl _ _))
   ·exact fun _ W _ hW _ hb hd _ hK _ => gd_step (C := true) wn_ (fun _ => x_move rfl (hd 20 112)) (hK _ W rfl (Below.refl _ _))
   ·exact fun _ W _ hW _ hb hd _ hK _ => gd_step (wg0 (hd 21 113)) (fun hC => x_fa92 rfl (oD (by kernel_rfl)) (hb 6)) (hK _ W rfl (Below.refl _ _))
   ·exact fun _ W _ hW _ hb hd _ hK _ => gd_step (wg0 (hd 21 113)) (fun hC => x_ld3 rfl (cnd (hd 22 114) hC) ((blk_cell (cX W hW) 2).trans rfl)) (hK _ W rfl (Below.refl _ _))
   ·intro bq W B hW hB hb hd K hK hK2; exact gc_step (wg0 (hd 21 113)) (fun hC => ⟨x_call Tryd.func28 (by kernel_rfl) rfl rfl (args3 (cnd (hd 23 115) hC) rfl rfl), (HC.out W).mono (fun e_ W_ h_ => ⟨h_.1, h_.2.below⟩)⟩) (fun W_ hb_ => hK _ W_ rfl hb_)
   ·exact fun _ W _ hW _ hb hd _ hK _ => gd_step (wg0 (hd 21 113)) (fun hC => x_not rfl (cnd (hd 24 116) hC)) (hK _ W rfl (Below.refl _ _))
   ·exact fun _ W _ hW _ hb hd _ hK _ => gd_step (C := true) wn_ (fun _ => x_or rfl (hd 21 113) (hd 25 117)) (hK _ W rfl (Below.refl _ _))
   ·exact fun _ W _ hW _ hb hd _ hK _ => gd_step (C := true) wn_ (fun _ => x_move rfl (hd 26 118)) (hK _ W rfl (Below.refl _ _))
   ·exact fun _ W _ hW _ hb hd _ hK _ => gd_step (wg0 (hd 27 119)) (fun hC => x_fa38 rfl (oD (by kernel_rfl)) (hb 1)) (hK _ W rfl (Below.refl _ _))
   ·exact fun _ W _ hW _ hb hd _ hK _ => gd_step (wg0 (hd 27 119)) (fun hC => x_ld34 rfl (cnd (hd 28 120) hC) ((blk_cell (cN W hW) 1).trans rfl)) (hK _ W rfl (Below.refl _ _))
   ·exact fun _ W _ hW _ hb hd _ hK _ => gd_step (wg0 (hd 27 119)) (fun hC => x_move rfl (hb 5)) (hK _ W rfl (Below.refl _ _))
   ·exact fun _ W _ hW _ hb hd _ hK _ => gd_step (wg0 (hd 27 119)) (fun hC => x_slhi34 rfl (cnd (hd 29 121) hC) (cnd (hd 30 122) hC) hkc) (hK _ W rfl (Below.refl _ _))
   ·exact fun _ W _ hW _ hb hd _ hK _ => gd_step (wg0 (hd 27 119)) (fun hC => x_fa92 rfl (oD (by kernel_rfl)) (hb 6)) (hK _ W rfl (Below.refl _ _))
   ·exact fun _ W _ hW _ hb hd _ hK _ => gd_step (wg0 (hd 27 119)) (fun hC => x_ld3 rfl (cnd (hd 32 124) hC) ((blk_cell (cX W hW) 0).trans rfl)) (hK _ W rfl (Below.refl _ _))
   ·exact fun _ W _ hW _ hb hd _ hK _ => gd_step (wg0 (hd 27 119)) (fun hC => x_fa92 rfl (oD (by kernel_rfl)) (hb 6)) (hK _ W rfl (Below.refl _ _))
   ·exact fun _ W _ hW _ hb hd _ hK _ => gd_step (wg0 (hd 27 119)) (fun hC => x_ld3 rfl (cnd (hd 34 126) hC) ((blk_cell (cX W hW) 1).trans rfl)) (hK _ W rfl (Below.refl _ _))
   ·intro bq W B hW hB hb hd K hK hK2; exact gc_step (wg0 (hd 27 119)) (fun hC => ⟨x_call Tryd.func32 (by kernel_rfl) rfl rfl (args3 (cnd (hd 31 123) hC) (cnd (hd 33 125) hC) (cnd (hd 35 127) hC)), (HCT.out W (HW W hW) hC).mono (fun e_ W_ h_ => ⟨h_.1, h_.2.below⟩)⟩) (fun W_ hb_ => hK _ W_ rfl hb_)
   ·exact fun _ W _ hW _ hb hd _ hK _ => gd_step (wg0 (hd 27 119)) (fun hC => x_geq rfl (cnd (hd 36 128) hC) rfl) (hK _ W rfl (Below.refl _ _))
   intro vals F W B hF hW hBB hV
   refine last_step (C := true) (u := .bool ((((((!ra) || (!rb)) || (x0 == x1)) || (!rc)) || (decide (u ≥ 0))))) wn_ (fun _ => x_or rfl (((congrArg (fun q_ : Act => q_.eval (.tmp 119)) hF).trans (fillA_i (n := 218) (by kernel_rfl) rfl (by kernel_rfl))).trans (hV 27 119 (oD (by kernel_rfl)) rfl)) (((congrArg (fun q_ : Act => q_.eval (.tmp 129)) hF).trans (fillA_i (n := 218) (by kernel_rfl) rfl (by kernel_rfl))).trans (hV 37 129 (oD (by kernel_rfl)) rfl))) ?_
   have HB9 := aM (HW W hW)
   have BN9 := aM (And.intro (cN W hW) BN.out.2)
   clear HB BN
   have HB := HB9
   have BN := BN9
   clear HB9 BN9 hW HW cN cX HX
   rw [hF]
   clear hF hV hBB
   simp only [cond_true, List.take, fillA, Act.put, List.setIfInBounds_toArray, List.set_cons_zero, List.set_cons_succ]
   cases hR : (((((!ra) || (!rb)) || (x0 == x1)) || (!rc)) || (decide (u ≥ 0))) with
   | true =>
    obtain ⟨hn0, hn1, hn2, hn3, hn4, hn5⟩ := swc6 BN.out.1
    have hN : t2 = false := HF.out hR
    subst hN
    obtain rfl := (ifz H.out).1 rfl
    go_wp2
    go_ret
    exact ⟨rfl, HB.out⟩
   | false =>
    obtain ⟨hn0, hn1, hn2, hn3, hn4, hn5⟩ := swc6 BN.out.1
    have HL := aM (HT.out hR)
    clear HT HF
    go_wp2
    go_roundg (l0_1.length - (kk + 1))
    case measure => omega
    case rel => exact ⟨kk + 1, by omega, by omega, by go_num, HB, BN, HL⟩
  have hltz : ¬ (kk : Int) < (l0_1.length : Int) := by omega
  obtain rfl : kk = l0_1.length := by omega
  rw [List.drop_length, slinksO] at hN
  obtain rfl := Option.some.inj hN
  have h := (ifz H.out).2 rfl
  clear H hN
  replace h := Option.bind_eq_some_iff.1 h
  obtain ⟨t3, hnm, h⟩ := h
  have H := aM h
  have HL : Aside0 (simpsO k l0_1 (l0_4.drop 0) = some t3) := ⟨by rw [List.drop_zero]; exact hnm⟩
  clear h hnm
  obtain ⟨hn0, hn1, hn2, hn3, hn4, hn5⟩ := swc6 BN.out.1
  go_wp2
  clear hn0 hn1 hn2 hn3 hn4 hn5
  go_loopg [7] l0_4.length (fun gg s7 wr => ∃ kk : Nat, kk ≤ l0_4.length ∧ l0_4.length - kk ≤ gg ∧ s7 = .int .i64 kk ∧ Aside0 (Below w.heap.size w wr) ∧ Aside0 (wr.heap[gn]? = some (.cells #[.slice A0_0 l0_0.length c0_0, .slice A0_1 l0_1.length c0_1, .slice A0_2 l0_2.length c0_2, .slice A0_3 l0_3.length c0_3, .slice A0_4 l0_4.length c0_4, .slice A0_5 l0_5.length c0_5] 36 (0, 0)) ∧ w.heap.size ≤ gn) ∧ Aside0 (simpsO k l0_1 (l0_4.drop kk) = some t3))
  case atStart => exact ⟨0, Nat.zero_le _, by omega, rfl, HB, BN, HL⟩
  clear HL HB BN
  obtain ⟨kk, hkk, hg, rfl, HB, BN, HL⟩ := hrel
  have HM0 := HM.out.2.2.1
  have hN := HL.out
  clear HL
  by_cases hlt : kk < l0_4.length
  rotate_left
  ·have hltz : ¬ (kk : Int) < (l0_4.length : Int) := by omega
   obtain rfl : kk = l0_4.length := by omega
   rw [List.drop_length, simpsO] at hN
   obtain rfl := Option.some.inj hN
   have h := (ifz H.out).2 rfl
   clear H hN
   have HL : Aside0 (sfiltsO k l0_1 (l0_5.drop 0) = some r) := ⟨by rw [List.drop_zero]; exact h⟩
   clear h
   obtain ⟨hn0, hn1, hn2, hn3, hn4, hn5⟩ := swc6 BN.out.1
   go_wp2
   clear hn0 hn1 hn2 hn3 hn4 hn5
   go_loopg [9] l0_5.length (fun gg s9 wr => ∃ kk : Nat, kk ≤ l0_5.length ∧ l0_5.length - kk ≤ gg ∧ s9 = .int .i64 kk ∧ Aside0 (Below w.heap.size w wr) ∧ Aside0 (wr.heap[gn]? = some (.cells #[.slice A0_0 l0_0.length c0_0, .slice A0_1 l0_1.length c0_1, .slice A0_2 l0_2.length c0_2, .slice A0_3 l0_3.length c0_3, .slice A0_4 l0_4.length c0_4, .slice A0_5 l0_5.length c0_5] 36 (0, 0)) ∧ w.heap.size ≤ gn) ∧ Aside0 (sfiltsO k l0_1 (l0_5.drop kk) = some r))
   case atStart => exact ⟨0, Nat.zero_le _, by omega, rfl, HB, BN, HL⟩
   clear HL HB BN
   obtain ⟨kk, hkk, hg, rfl, HB, BN, HL⟩ := hrel
   have HM0 := HM.out.2.2.2
   have hN := HL.out
   clear HL
   by_cases hlt : kk < l0_5.length
   rotate_left
   ·have hltz : ¬ (kk : Int) < (l0_5.length : Int) := by omega
    obtain rfl : kk = l0_5.length := by omega
    rw [List.drop_length, sfiltsO] at hN
    obtain rfl := Option.some.inj hN
    clear hN
    obtain ⟨hn0, hn1, hn2, hn3, hn4, hn5⟩ := swc6 BN.out.1
    go_wp2
    go_ret
    exact ⟨rfl, HB.out⟩
   have hltz : (kk : Int) < (l0_5.length : Int) := by omega
   have hkc0 : (0 : Int) ≤ (kk : Int) := Int.natCast_nonneg _
   obtain ⟨ad, ea, hx0, hx1, hx2, hx3⟩ := at_T97 HN.out.2.2.2.2.2.2.2.2.2.2.1 (kk : Int) (by omega) (by omega)
   cases ea
   rw [Int.toNat_natCast] at hx0 hx1 hx2 hx3
   replace hx0 := swB HB.out hx0
   replace hx1 := swB HB.out hx1
   replace hx2 := swB HB.out hx2
   replace hx3 := swB HB.out hx3
   have hrd : rd_T97 l0_5 (kk : Int) = l0_5[kk] := by unfold rd_T97; simp [List.getD, hlt]
   rw [hrd] at hx0 hx1 hx2 hx3
   rw [List.drop_eq_getElem_cons hlt, sfiltsO] at hN
   have ew : IntKind.i64.wrap ((kk : Int) + 1) = ((kk + 1 : Nat) : Int) := IntWalk.i64_in _ (by omega)
   clear hrd
   generalize l0_5[kk] = x at hN hx0 hx1 hx2 hx3
   obtain ⟨x0, x1, x2, x3⟩ := x
   dsimp only at hN hx0 hx1 hx2 hx3
   have HA : Aside0 (∀ V : World, Calls Tryd.prog 28 #[.int .i64 x2, .int .i64 0, .int .i64 15] V fun e W' => e = .returned (.bool (inB x2 0 15)) ∧ Drawn0 V W') := ⟨fun V => spec_l01In.calls x2 0 15 _ V (sin_is x2 0 15)⟩
   have HBb : Aside0 (∀ V : World, Calls Tryd.prog 28 #[.int .i64 x3, .int .i64 x2, .int .i64 15] V fun e W' => e = .returned (.bool (inB x3 x2 15)) ∧ Drawn0 V W') := ⟨fun V => spec_l01In.calls x3 x2 15 _ V (sin_is x3 x2 15)⟩
   generalize inB x2 0 15 = ra at hN HA
   generalize inB x3 x2 15 = rb at hN HBb
   replace hN := Option.bind_eq_some_iff.1 hN
   obtain ⟨u, hu, hN⟩ := hN
   have HF := aM (ifz hN).1
   have HT := aM (ifz hN).2
   have HCT : Aside0 (∀ V : World, Below w.heap.size w V → Calls Tryd.prog 32 #[.slice A0_1 l0_1.length c0_1, .int .i64 x0, .int .i64 x1] V fun e w' => e = .returned (.int .i64 u) ∧ Drawn0 V w') := ⟨fun V hV => spec_l06Link.calls k A0_1 c0_1 l0_1 x0 x1 _ V (Kd.C_below HN.out.2.2.1 hV) HN.out.2.2.2.1 hu⟩
   clear hu hN
   obtain ⟨hn0, hn1, hn2, hn3, hn4, hn5⟩ := swc6 BN.out.1
   go_upto_region 25 with (first | ((with_reducible refine gate_dst (N := 10) rfl ?_); refine box_event rfl (N := 10) rfl (cs := #[.int .i64 0, .int .i64 0, .int .i64 0, .int .i64 0]) (t := 67) (by go_simp; done) ?_; intro g6 hg6 w6 hbox hbb; have HX := aM (And.intro hbox (And.intro (show w.heap.size ≤ g6 by rw [hg6]; exact HB.out.size) (show gn ≠ g6 by rw [hg6]; exact Nat.ne_of_lt (blk_lt BN.out.1)))); clear hn0 hn1 hn2 hn3 hn4 hn5; clear hx0 hx1 hx2 hx3; replace HB := aM (HB.out.trans (hbb.mono HB.out.size)); replace BN := aM (And.intro (blk_below BN.out.1 hbb) BN.out.2); clear hbb hbox hg6) | ((with_reducible refine gate_store (t := 67) (p := 10) rfl ?_); obtain ⟨hc0, hc1, hc2, hc3⟩ := swc4 HX.out.1; have hf0 := blk_frozen HX.out.1 0; have hf1 := blk_frozen HX.out.1 1; have hf2 := blk_frozen HX.out.1 2; have hf3 := blk_frozen HX.out.1 3; refine store_event (t := 67) (p := 10) (v := .tmp 195) (w1 := ((((w6.setCell ⟨g6, 0, none⟩ (.int .i64 x0)).setCell ⟨g6, 1, none⟩ (.int .i64 x1)).setCell ⟨g6, 2, none⟩ (.int .i64 x2)).setCell ⟨g6, 3, none⟩ (.int .i64 x3))) ?hg ?ho ?hn ?hr ?_; (case ho => rfl); (case hg => rfl); (case hn => rfl); (case hr => (go_simp; done)); clear hc0 hf0 hc1 hf1 hc2 hf2 hc3 hf3; intro w7 hw_; obtain ⟨hbk, hkb, hkw⟩ := boxi4 (a0 := x0) (a1 := x1) (a2 := x2) (a3 := x3) HX.out.1; rw [← hw_] at hbk hkb hkw; clear hw_; replace HB := aM (hkw _ HB.out HX.out.2.1); replace BN := aM (And.intro (blk_kept BN.out.1 hkb (fun h_ => HX.out.2.2 h_)) BN.out.2); replace HX := aM (And.intro hbk HX.out.2); clear hbk hkb hkw; obtain ⟨hn0, hn1, hn2, hn3, hn4, hn5⟩ := swc6 BN.out.1; obtain ⟨hx0, hx1, hx2, hx3⟩ := swc4 HX.out.1))
   clear hx0 hx1 hx2 hx3 hn0 hn1 hn2 hn3 hn4 hn5
   have HW : ∀ W, Below w7.heap.size w7 W → Below w.heap.size w W := fun W hW => HB.out.trans (hW.mono HB.out.size)
   have cN := fun (W : World) (hW : Below w7.heap.size w7 W) => blk_below BN.out.1 hW
   have cX := fun (W : World) (hW : Below w7.heap.size w7 W) => blk_below HX.out.1 hW
   refine seq_tail (R := []) [some 196, some 197, some 198, some 199, some 200, some 201, some 202, some 203, some 204, some 205, some 206, some 207, some 208, some 209, some 210, some 211, some 212, some 213, some 214, some 215, some 216, some 217] 218 22 [VP.eq (.pointer (some ⟨gn, 1, none⟩)), VP.eq (.slice A0_1 l0_1.length c0_1), VP.eq (.pointer (some ⟨g6, 0, none⟩)), VP.eq (.int .i64 (x0)), VP.eq (.pointer (some ⟨g6, 1, none⟩)), VP.eq (.int .i64 (x1)), VP.eq (.int .i64 (u)), VP.eq (.bool ((decide (u < 0)))), VP.eq (.bool ((decide (u < 0)))), VP.eq (cond (((decide (u < 0)) == false)) (.pointer (some ⟨g6, 2, none⟩)) undef), VP.eq (cond (((decide (u < 0)) == false)) (.int .i64 (x2)) undef), VP.eq (cond (((decide (u < 0)) == false)) (.bool (ra)) undef), VP.eq (cond (((decide (u < 0)) == false)) (.bool ((!ra))) undef), VP.eq (.bool (((decide (u < 0)) || (!ra)))), VP.eq (.bool (((decide (u < 0)) || (!ra)))), VP.eq (cond ((((decide (u < 0)) || (!ra)) == false)) (.pointer (some ⟨g6, 3, none⟩)) undef), VP.eq (cond ((((decide (u < 0)) || (!ra)) == false)) (.int .i64 (x3)) undef), VP.eq (cond ((((decide (u < 0)) || (!ra)) == false)) (.pointer (some ⟨g6, 2, none⟩)) undef), VP.eq (cond ((((decide (u < 0)) || (!ra)) == false)) (.int .i64 (x2)) undef), VP.eq (cond ((((decide (u < 0)) || (!ra)) == false)) (.bool (rb)) undef), VP.eq (cond ((((decide (u < 0)) || (!ra)) == false)) (.bool ((!rb))) undef), VP.eq (.bool ((((decide (u < 0)) || (!ra)) || (!rb))))] rfl rfl (by kernel_rfl) rfl ⟨?_, ?_, ?_, ?_, ?_, ?_, ?_, ?_, ?_, ?_, ?_, ?_, ?_, ?_, ?_, ?_, ?_, ?_, ?_, ?_, ?_, ?_, trivial⟩ ?_
   ·exact fun _ W _ hW _ hb hd _ hK _ => gd_step (C := true) wn_ (fun _ => x_fa38 rfl (oD (by kernel_rfl)) (hb 1)) (hK _ W rfl (Below.refl _ _))
   ·exact fun _ W _ hW _ hb hd _ hK _ => gd_step (C := true) wn_ (fun _ => x_ld34 rfl (hd 0 196) ((blk_cell (cN W hW) 1).trans rfl)) (hK _ W rfl (Below.refl _ _))
   ·exact fun _ W _ hW _ hb hd _ hK _ => gd_step (C := true) wn_ (fun _ => x_fa97 rfl (oD (by kernel_rfl)) (hb 10)) (hK _ W rfl (Below.refl _ _))
   ·exact fun _ W _ hW _ hb hd _ hK _ => gd_step (C := true) wn_ (fun _ => x_ld3 rfl (hd 2 198) ((blk_cell (cX W hW) 0).trans rfl)) (hK _ W rfl (Below.refl _ _))
   ·exact fun _ W _ hW _ hb hd _ hK _ => gd_step (C := true) wn_ (fun _ => x_fa97 rfl (oD (by kernel_rfl)) (hb 10)) (hK _ W rfl (Below.refl _ _))
   ·exact fun _ W _ hW _ hb hd _ hK _ => gd_step (C := true) wn_ (fun _ => x_ld3 rfl (hd 4 200) ((blk_cell (cX W hW) 1).trans rfl)) (hK _ W rfl (Below.refl _ _))
   ·intro bq W B hW hB hb hd K hK hK2; exact gc_step (C := true) wn_ (fun _ => ⟨x_call Tryd.func32 (by kernel_rfl) rfl rfl (args3 (hd 1 197) (hd 3 199) (hd 5 201)), (HCT.out W (HW W hW)).mono (fun e_ W_ h_ => ⟨h_.1, h_.2.below⟩)⟩) (fun W_ hb_ => hK _ W_ rfl hb_)
   ·exact fun _ W _ hW _ hb hd _ hK _ => gd_step (C := true) wn_ (fun _ => x_lss rfl (hd 6 202) rfl) (hK _ W rfl (Below.refl _ _))
   ·exact fun _ W _ hW _ hb hd _ hK _ => gd_step (C := true) wn_ (fun _ => x_move rfl (hd 7 203)) (hK _ W rfl (Below.refl _ _))
   ·exact fun _ W _ hW _ hb hd _ hK _ => gd_step (wg0 (hd 8 204)) (fun hC => x_fa97 rfl (oD (by kernel_rfl)) (hb 10)) (hK _ W rfl (Below.refl _ _))
   ·exact fun _ W _ hW _ hb hd _ hK _ => gd_step (wg0 (hd 8 204)) (fun hC => x_ld3 rfl (cnd (hd 9 205) hC) ((blk_cell (cX W hW) 2).trans rfl)) (hK _ W rfl (Below.refl _ _))
   ·intro bq W B hW hB hb hd K hK hK2; exact gc_step (wg0 (hd 8 204)) (fun hC => ⟨x_call Tryd.func28 (by kernel_rfl) rfl rfl (args3 (cnd (hd 10 206) hC) rfl rfl), (HA.out W).mono (fun e_ W_ h_ => ⟨h_.1, h_.2.below⟩)⟩) (fun W_ hb_ => hK _ W_ rfl hb_)
   ·exact fun _ W _ hW _ hb hd _ hK _ => gd_step (wg0 (hd 8 204)) (fun hC => x_not rfl (cnd (hd 11 207) hC)) (hK _ W rfl (Below.refl _ _))
   ·exact fun _ W _ hW _ hb hd _ hK _ => gd_step (C := true) wn_ (fun _ => x_or rfl (hd 8 204) (hd 12 208)) (hK _ W rfl (Below.refl _ _))
   ·exact fun _ W _ hW _ hb hd _ hK _ => gd_step (C := true) wn_ (fun _ => x_move rfl (hd 13 209)) (hK _ W rfl (Below.refl _ _))
   ·exact fun _ W _ hW _ hb hd _ hK _ => gd_step (wg0 (hd 14 210)) (fun hC => x_fa97 rfl (oD (by kernel_rfl)) (hb 10)) (hK _ W rfl (Below.refl _ _))
   ·exact fun _ W _ hW _ hb hd _ hK _ => gd_step (wg0 (hd 14 210)) (fun hC => x_ld3 rfl (cnd (hd 15 211) hC) ((blk_cell (cX W hW) 3).trans rfl)) (hK _ W rfl (Below.refl _ _))
   ·exact fun _ W _ hW _ hb hd _ hK _ => gd_step (wg0 (hd 14 210)) (fun hC => x_fa97 rfl (oD (by kernel_rfl)) (hb 10)) (hK _ W rfl (Below.refl _ _))
   ·exact fun _ W _ hW _ hb hd _ hK _ => gd_step (wg0 (hd 14 210)) (fun hC => x_ld3 rfl (cnd (hd 17 213) hC) ((blk_cell (cX W hW) 2).trans rfl)) (hK _ W rfl (Below.refl _ _))
   ·intro bq W B hW hB hb hd K hK hK2; exact gc_step (wg0 (hd 14 210)) (fun hC => ⟨x_call Tryd.func28 (by kernel_rfl) rfl rfl (args3 (cnd (hd 16 212) hC) (cnd (hd 18 214) hC) rfl), (HBb.out W).mono (fun e_ W_ h_ => ⟨h_.1, h_.2.below⟩)⟩) (fun W_ hb_ => hK _ W_ rfl hb_)
   ·exact fun _ W _ hW _ hb hd _ hK _ => gd_step (wg0 (hd 14 210)) (fun hC => x_not rfl (cnd (hd 19 215) hC)) (hK _ W rfl (Below.refl _ _))
   ·exact fun _ W _ hW _ hb hd _ hK _ => gd_step (C := true) wn_ (fun _ => x_or rfl (hd 14 210) (hd 20 216)) (hK _ W rfl (Below.refl _ _))
   intro vals F W B hF hW hBB hV
   have hf : vals 217 = .bool ((((decide (u < 0)) || (!ra)) || (!rb))) := hV 21 217 (oD (by kernel_rfl)) rfl
   have HB9 := aM (HW W hW)
   have BN9 := aM (And.intro (cN W hW) BN.out.2)
   clear HB BN
   have HB := HB9
   have BN := BN9
   clear HB9 BN9 hW HW cN cX HX
   rw [hF]
   clear hF hV hBB
   simp only [cond_true, List.take, fillA, Act.put, List.setIfInBounds_toArray, List.set_cons_zero, List.set_cons_succ, hf]
   clear hf
   cases hR : (((decide (u < 0)) || (!ra)) || (!rb)) with
   | true =>
    obtain ⟨hn0, hn1, hn2, hn3, hn4, hn5⟩ := swc6 BN.out.1
    have hN : r = false := HF.out hR
    subst hN
    go_wp2
    go_ret
    exact ⟨rfl, HB.out⟩
   | false =>
    obtain ⟨hn0, hn1, hn2, hn3, hn4, hn5⟩ := swc6 BN.out.1
    have HL := aM (HT.out hR)
    clear HT HF
    go_wp2
    go_roundg (l0_5.length - (kk + 1))
    case measure => omega
    case rel => exact ⟨kk + 1, by omega, by omega, by go_num, HB, BN, HL⟩
  have hltz : (kk : Int) < (l0_4.length : Int) := by omega
  have hkc0 : (0 : Int) ≤ (kk : Int) := Int.natCast_nonneg _
  obtain ⟨ad, ea, hx0, hx1, hx2, hx3, hx4⟩ := at_T95 HN.out.2.2.2.2.2.2.2.2.1 (kk : Int) (by omega) (by omega)
  cases ea
  rw [Int.toNat_natCast] at hx0 hx1 hx2 hx3 hx4
  replace hx0 := swB HB.out hx0
  replace hx1 := swB HB.out hx1
  replace hx2 := swB HB.out hx2
  replace hx3 := swB HB.out hx3
  replace hx4 := swB HB.out hx4
  have hrd : rd_T95 l0_4 (kk : Int) = l0_4[kk] := by unfold rd_T95; simp [List.getD, hlt]
  rw [hrd] at hx0 hx1 hx2 hx3 hx4
  rw [List.drop_eq_getElem_cons hlt, simpsO] at hN
  have ew : IntKind.i64.wrap ((kk : Int) + 1) = ((kk + 1 : Nat) : Int) := IntWalk.i64_in _ (by omega)
  clear hrd
  generalize l0_4[kk] = x at hN hx0 hx1 hx2 hx3 hx4
  obtain ⟨x0, x1, x2, x3, x4⟩ := x
  dsimp only at hN hx0 hx1 hx2 hx3 hx4
  have HA : Aside0 (∀ V : World, Calls Tryd.prog 28 #[.int .i64 x2, .int .i64 0, .int .i64 2] V fun e W' => e = .returned (.bool (inB x2 0 2)) ∧ Drawn0 V W') := ⟨fun V => spec_l01In.calls x2 0 2 _ V (sin_is x2 0 2)⟩
  have HBb : Aside0 (∀ V : World, Calls Tryd.prog 28 #[.int .i64 x3, .int .i64 1, .int .i64 4] V fun e W' => e = .returned (.bool (inB x3 1 4)) ∧ Drawn0 V W') := ⟨fun V => spec_l01In.calls x3 1 4 _ V (sin_is x3 1 4)⟩
  have HC : Aside0 (∀ V : World, Calls Tryd.prog 28 #[.int .i64 x4, .int .i64 0, .int .i64 1000] V fun e W' => e = .returned (.bool (inB x4 0 1000)) ∧ Drawn0 V W') := ⟨fun V => spec_l01In.calls x4 0 1000 _ V (sin_is x4 0 1000)⟩
  generalize inB x2 0 2 = ra at hN HA
  generalize inB x3 1 4 = rb at hN HBb
  generalize inB x4 0 1000 = rc at hN HC
  replace hN := Option.bind_eq_some_iff.1 hN
  obtain ⟨u, hu, hN⟩ := hN
  have HF := aM (ifz hN).1
  have HT := aM (ifz hN).2
  have HCT : Aside0 (∀ V : World, Below w.heap.size w V → Calls Tryd.prog 32 #[.slice A0_1 l0_1.length c0_1, .int .i64 x0, .int .i64 x1] V fun e w' => e = .returned (.int .i64 u) ∧ Drawn0 V w') := ⟨fun V hV => spec_l06Link.calls k A0_1 c0_1 l0_1 x0 x1 _ V (Kd.C_below HN.out.2.2.1 hV) HN.out.2.2.2.1 hu⟩
  clear hu hN
  obtain ⟨hn0, hn1, hn2, hn3, hn4, hn5⟩ := swc6 BN.out.1
  go_upto_region 19 with (first | ((with_reducible refine gate_dst (N := 8) rfl ?_); refine box_event rfl (N := 8) rfl (cs := #[.int .i64 0, .int .i64 0, .int .i64 0, .int .i64 0, .int .i64 0]) (t := 65) (by go_simp; done) ?_; intro g6 hg6 w6 hbox hbb; have HX := aM (And.intro hbox (And.intro (show w.heap.size ≤ g6 by rw [hg6]; exact HB.out.size) (show gn ≠ g6 by rw [hg6]; exact Nat.ne_of_lt (blk_lt BN.out.1)))); clear hn0 hn1 hn2 hn3 hn4 hn5; clear hx0 hx1 hx2 hx3 hx4; replace HB := aM (HB.out.trans (hbb.mono HB.out.size)); replace BN := aM (And.intro (blk_below BN.out.1 hbb) BN.out.2); clear hbb hbox hg6) | ((with_reducible refine gate_store (t := 65) (p := 8) rfl ?_); obtain ⟨hc0, hc1, hc2, hc3, hc4⟩ := swc5 HX.out.1; have hf0 := blk_frozen HX.out.1 0; have hf1 := blk_frozen HX.out.1 1; have hf2 := blk_frozen HX.out.1 2; have hf3 := blk_frozen HX.out.1 3; have hf4 := blk_frozen HX.out.1 4; refine store_event (t := 65) (p := 8) (v := .tmp 142) (w1 := (((((w6.setCell ⟨g6, 0, none⟩ (.int .i64 x0)).setCell ⟨g6, 1, none⟩ (.int .i64 x1)).setCell ⟨g6, 2, none⟩ (.int .i64 x2)).setCell ⟨g6, 3, none⟩ (.int .i64 x3)).setCell ⟨g6, 4, none⟩ (.int .i64 x4))) ?hg ?ho ?hn ?hr ?_; (case ho => rfl); (case hg => rfl); (case hn => rfl); (case hr => (go_simp; done)); clear hc0 hf0 hc1 hf1 hc2 hf2 hc3 hf3 hc4 hf4; intro w7 hw_; obtain ⟨hbk, hkb, hkw⟩ := boxi5 (a0 := x0) (a1 := x1) (a2 := x2) (a3 := x3) (a4 := x4) HX.out.1; rw [← hw_] at hbk hkb hkw; clear hw_; replace HB := aM (hkw _ HB.out HX.out.2.1); replace BN := aM (And.intro (blk_kept BN.out.1 hkb (fun h_ => HX.out.2.2 h_)) BN.out.2); replace HX := aM (And.intro hbk HX.out.2); clear hbk hkb hkw; obtain ⟨hn0, hn1, hn2, hn3, hn4, hn5⟩ := swc6 BN.out.1; obtain ⟨hx0, hx1, hx2, hx3, hx4⟩ := swc5 HX.out.1))
  clear hx0 hx1 hx2 hx3 hx4 hn0 hn1 hn2 hn3 hn4 hn5
  have HW : ∀ W, Below w7.heap.size w7 W → Below w.heap.size w W := fun W hW => HB.out.trans (hW.mono HB.out.size)
  have cN := fun (W : World) (hW : Below w7.heap.size w7 W) => blk_below BN.out.1 hW
  have cX := fun (W : World) (hW : Below w7.heap.size w7 W) => blk_below HX.out.1 hW
  refine seq_tail (R := []) [some 143, some 144, some 145, some 146, some 147, some 148, some 149, some 150, some 151, some 152, some 153, some 154, some 155, some 156, some 157, some 158, some 159, some 160, some 161, some 162, some 163, some 164, some 165, some 166, some 167, some 168, some 169, some 170, some 171, some 172, some 173, some 174, some 175, some 176, some 177, some 178, some 179, some 180, some 181, some 182, some 183] 218 41 [VP.eq (.pointer (some ⟨gn, 1, none⟩)), VP.eq (.slice A0_1 l0_1.length c0_1), VP.eq (.pointer (some ⟨g6, 0, none⟩)), VP.eq (.int .i64 (x0)), VP.eq (.pointer (some ⟨g6, 1, none⟩)), VP.eq (.int .i64 (x1)), VP.eq (.int .i64 (u)), VP.eq (.bool ((decide (u < 0)))), VP.eq (.bool ((decide (u < 0)))), VP.eq (cond (((decide (u < 0)) == false)) (.pointer (some ⟨g6, 2, none⟩)) undef), VP.eq (cond (((decide (u < 0)) == false)) (.int .i64 (x2)) undef), VP.eq (cond (((decide (u < 0)) == false)) (.bool (ra)) undef), VP.eq (cond (((decide (u < 0)) == false)) (.bool ((!ra))) undef), VP.eq (.bool (((decide (u < 0)) || (!ra)))), VP.eq (.bool (((decide (u < 0)) || (!ra)))), VP.eq (cond ((((decide (u < 0)) || (!ra)) == false)) (.pointer (some ⟨g6, 3, none⟩)) undef), VP.eq (cond ((((decide (u < 0)) || (!ra)) == false)) (.int .i64 (x3)) undef), VP.eq (cond ((((decide (u < 0)) || (!ra)) == false)) (.bool (rb)) undef), VP.eq (cond ((((decide (u < 0)) || (!ra)) == false)) (.bool ((!rb))) undef), VP.eq (.bool ((((decide (u < 0)) || (!ra)) || (!rb)))), VP.eq (.bool ((((decide (u < 0)) || (!ra)) || (!rb)))), VP.eq (cond (((((decide (u < 0)) || (!ra)) || (!rb)) == false)) (.pointer (some ⟨g6, 3, none⟩)) undef), VP.eq (cond (((((decide (u < 0)) || (!ra)) || (!rb)) == false)) (.int .i64 (x3)) undef), VP.eq (cond (((((decide (u < 0)) || (!ra)) || (!rb)) == false)) (.bool ((x3 == 2))) undef), VP.eq (cond (((((decide (u < 0)) || (!ra)) || (!rb)) == false)) (.bool ((x3 == 2))) undef), VP.eq (cond ((((((decide (u < 0)) || (!ra)) || (!rb)) == false) && ((x3 == 2) == true))) (.pointer (some ⟨g6, 4, none⟩)) undef), VP.eq (cond ((((((decide (u < 0)) || (!ra)) || (!rb)) == false) && ((x3 == 2) == true))) (.int .i64 (x4)) undef), VP.eq (cond ((((((decide (u < 0)) || (!ra)) || (!rb)) == false) && ((x3 == 2) == true))) (.bool (rc)) undef), VP.eq (cond ((((((decide (u < 0)) || (!ra)) || (!rb)) == false) && ((x3 == 2) == true))) (.bool ((!rc))) undef), VP.eq (cond (((((decide (u < 0)) || (!ra)) || (!rb)) == false)) (.bool (((x3 == 2) && (!rc)))) undef), VP.eq (.bool (((((decide (u < 0)) || (!ra)) || (!rb)) || ((x3 == 2) && (!rc))))), VP.eq (.bool (((((decide (u < 0)) || (!ra)) || (!rb)) || ((x3 == 2) && (!rc))))), VP.eq (cond ((((((decide (u < 0)) || (!ra)) || (!rb)) || ((x3 == 2) && (!rc))) == false)) (.pointer (some ⟨g6, 3, none⟩)) undef), VP.eq (cond ((((((decide (u < 0)) || (!ra)) || (!rb)) || ((x3 == 2) && (!rc))) == false)) (.int .i64 (x3)) undef), VP.eq (cond ((((((decide (u < 0)) || (!ra)) || (!rb)) || ((x3 == 2) && (!rc))) == false)) (.bool ((x3 != 2))) undef), VP.eq (cond ((((((decide (u < 0)) || (!ra)) || (!rb)) || ((x3 == 2) && (!rc))) == false)) (.bool ((x3 != 2))) undef), VP.eq (cond (((((((decide (u < 0)) || (!ra)) || (!rb)) || ((x3 == 2) && (!rc))) == false) && ((x3 != 2) == true))) (.pointer (some ⟨g6, 4, none⟩)) undef), VP.eq (cond (((((((decide (u < 0)) || (!ra)) || (!rb)) || ((x3 == 2) && (!rc))) == false) && ((x3 != 2) == true))) (.int .i64 (x4)) undef), VP.eq (cond (((((((decide (u < 0)) || (!ra)) || (!rb)) || ((x3 == 2) && (!rc))) == false) && ((x3 != 2) == true))) (.bool ((x4 != 0))) undef), VP.eq (cond ((((((decide (u < 0)) || (!ra)) || (!rb)) || ((x3 == 2) && (!rc))) == false)) (.bool (((x3 != 2) && (x4 != 0)))) undef), VP.eq (.bool ((((((decide (u < 0)) || (!ra)) || (!rb)) || ((x3 == 2) && (!rc))) || ((x3 != 2) && (x4 != 0)))))] rfl rfl (by kernel_rfl) rfl ⟨?_, ?_, ?_, ?_, ?_, ?_, ?_, ?_, ?_, ?_, ?_, ?_, ?_, ?_, ?_, ?_, ?_, ?_, ?_, ?_, ?_, ?_, ?_, ?_, ?_, ?_, ?_, ?_, ?_, ?_, ?_, ?_, ?_, ?_, ?_, ?_, ?_, ?_, ?_, ?_, ?_, trivial⟩ ?_
  ·exact fun _ W _ hW _ hb hd _ hK _ => gd_step (C := true) wn_ (fun _ => x_fa38 rfl (oD (by kernel_rfl)) (hb 1)) (hK _ W rfl (Below.refl _ _))
  ·exact fun _ W _ hW _ hb hd _ hK _ => gd_step (C := true) wn_ (fun _ => x_ld34 rfl (hd 0 143) ((blk_cell (cN W hW) 1).trans rfl)) (hK _ W rfl (Below.refl _ _))
  ·exact fun _ W _ hW _ hb hd _ hK _ => gd_step (C := true) wn_ (fun _ => x_fa95 rfl (oD (by kernel_rfl)) (hb 8)) (hK _ W rfl (Below.refl _ _))
  ·exact fun _ W _ hW _ hb hd _ hK _ => gd_step (C := true) wn_ (fun _ => x_ld3 rfl (hd 2 145) ((blk_cell (cX W hW) 0).trans rfl)) (hK _ W rfl (Below.refl _ _))
  ·exact fun _ W _ hW _ hb hd _ hK _ => gd_step (C := true) wn_ (fun _ => x_fa95 rfl (oD (by kernel_rfl)) (hb 8)) (hK _ W rfl (Below.refl _ _))
  ·exact fun _ W _ hW _ hb hd _ hK _ => gd_step (C := true) wn_ (fun _ => x_ld3 rfl (hd 4 147) ((blk_cell (cX W hW) 1).trans rfl)) (hK _ W rfl (Below.refl _ _))
  ·intro bq W B hW hB hb hd K hK hK2; exact gc_step (C := true) wn_ (fun _ => ⟨x_call Tryd.func32 (by kernel_rfl) rfl rfl (args3 (hd 1 144) (hd 3 146) (hd 5 148)), (HCT.out W (HW W hW)).mono (fun e_ W_ h_ => ⟨h_.1, h_.2.below⟩)⟩) (fun W_ hb_ => hK _ W_ rfl hb_)
  ·exact fun _ W _ hW _ hb hd _ hK _ => gd_step (C := true) wn_ (fun _ => x_lss rfl (hd 6 149) rfl) (hK _ W rfl (Below.refl _ _))
  ·exact fun _ W _ hW _ hb hd _ hK _ => gd_step (C := true) wn_ (fun _ => x_move rfl (hd 7 150)) (hK _ W rfl (Below.refl _ _))
  ·exact fun _ W _ hW _ hb hd _ hK _ => gd_step (wg0 (hd 8 151)) (fun hC => x_fa95 rfl (oD (by kernel_rfl)) (hb 8)) (hK _ W rfl (Below.refl _ _))
  ·exact fun _ W _ hW _ hb hd _ hK _ => gd_step (wg0 (hd 8 151)) (fun hC => x_ld3 rfl (cnd (hd 9 152) hC) ((blk_cell (cX W hW) 2).trans rfl)) (hK _ W rfl (Below.refl _ _))
  ·intro bq W B hW hB hb hd K hK hK2; exact gc_step (wg0 (hd 8 151)) (fun hC => ⟨x_call Tryd.func28 (by kernel_rfl) rfl rfl (args3 (cnd (hd 10 153) hC) rfl rfl), (HA.out W).mono (fun e_ W_ h_ => ⟨h_.1, h_.2.below⟩)⟩) (fun W_ hb_ => hK _ W_ rfl hb_)
  ·exact fun _ W _ hW _ hb hd _ hK _ => gd_step (wg0 (hd 8 151)) (fun hC => x_not rfl (cnd (hd 11 154) hC)) (hK _ W rfl (Below.refl _ _))
  ·exact fun _ W _ hW _ hb hd _ hK _ => gd_step (C := true) wn_ (fun _ => x_or rfl (hd 8 151) (hd 12 155)) (hK _ W rfl (Below.refl _ _))
  ·exact fun _ W _ hW _ hb hd _ hK _ => gd_step (C := true) wn_ (fun _ => x_move rfl (hd 13 156)) (hK _ W rfl (Below.refl _ _))
  ·exact fun _ W _ hW _ hb hd _ hK _ => gd_step (wg0 (hd 14 157)) (fun hC => x_fa95 rfl (oD (by kernel_rfl)) (hb 8)) (hK _ W rfl (Below.refl _ _))
  ·exact fun _ W _ hW _ hb hd _ hK _ => gd_step (wg0 (hd 14 157)) (fun hC => x_ld3 rfl (cnd (hd 15 158) hC) ((blk_cell (cX W hW) 3).trans rfl)) (hK _ W rfl (Below.refl _ _))
  ·intro bq W B hW hB hb hd K hK hK2; exact gc_step (wg0 (hd 14 157)) (fun hC => ⟨x_call Tryd.func28 (by kernel_rfl) rfl rfl (args3 (cnd (hd 16 159) hC) rfl rfl), (HBb.out W).mono (fun e_ W_ h_ => ⟨h_.1, h_.2.below⟩)⟩) (fun W_ hb_ => hK _ W_ rfl hb_)
  ·exact fun _ W _ hW _ hb hd _ hK _ => gd_step (wg0 (hd 14 157)) (fun hC => x_not rfl (cnd (hd 17 160) hC)) (hK _ W rfl (Below.refl _ _))
  ·exact fun _ W _ hW _ hb hd _ hK _ => gd_step (C := true) wn_ (fun _ => x_or rfl (hd 14 157) (hd 18 161)) (hK _ W rfl (Below.refl _ _))
  ·exact fun _ W _ hW _ hb hd _ hK _ => gd_step (C := true) wn_ (fun _ => x_move rfl (hd 19 162)) (hK _ W rfl (Below.refl _ _))
  ·exact fun _ W _ hW _ hb hd _ hK _ => gd_step (wg0 (hd 20 163)) (fun hC => x_fa95 rfl (oD (by kernel_rfl)) (hb 8)) (hK _ W rfl (Below.refl _ _))
  ·exact fun _ W _ hW _ hb hd _ hK _ => gd_step (wg0 (hd 20 163)) (fun hC => x_ld3 rfl (cnd (hd 21 164) hC) ((blk_cell (cX W hW) 3).trans rfl)) (hK _ W rfl (Below.refl _ _))
  ·exact fun _ W _ hW _ hb hd _ hK _ => gd_step (wg0 (hd 20 163)) (fun hC => x_eql rfl (cnd (hd 22 165) hC) rfl) (hK _ W rfl (Below.refl _ _))
  ·exact fun _ W _ hW _ hb hd _ hK _ => gd_step (wg0 (hd 20 163)) (fun hC => x_move rfl (cnd (hd 23 166) hC)) (hK _ W rfl (Below.refl _ _))
  ·exact fun _ W _ hW _ hb hd _ hK _ => gd_step (wg (hd 24 167)) (fun hC => x_fa95 rfl (oD (by kernel_rfl)) (hb 8)) (hK _ W rfl (Below.refl _ _))
  ·exact fun _ W _ hW _ hb hd _ hK _ => gd_step (wg (hd 24 167)) (fun hC => x_ld3 rfl (cnd (hd 25 168) hC) ((blk_cell (cX W hW) 4).trans rfl)) (hK _ W rfl (Below.refl _ _))
  ·intro bq W B hW hB hb hd K hK hK2; exact gc_step (wg (hd 24 167)) (fun hC => ⟨x_call Tryd.func28 (by kernel_rfl) rfl rfl (args3 (cnd (hd 26 169) hC) rfl rfl), (HC.out W).mono (fun e_ W_ h_ => ⟨h_.1, h_.2.below⟩)⟩) (fun W_ hb_ => hK _ W_ rfl hb_)
  ·exact fun _ W _ hW _ hb hd _ hK _ => gd_step (wg (hd 24 167)) (fun hC => x_not rfl (cnd (hd 27 170) hC)) (hK _ W rfl (Below.refl _ _))
  ·exact fun _ W _ hW _ hb hd _ hK _ => gd_step (wg0 (hd 20 163)) (fun hC => x_and rfl (cnd (hd 24 167) hC) (cnd_and (hd 28 171) hC)) (hK _ W rfl (Below.refl _ _))
  ·exact fun _ W _ hW _ hb hd _ hK _ => gd_step (C := true) wn_ (fun _ => x_or rfl (hd 20 163) (hd 29 172)) (hK _ W rfl (Below.refl _ _))
  ·exact fun _ W _ hW _ hb hd _ hK _ => gd_step (C := true) wn_ (fun _ => x_move rfl (hd 30 173)) (hK _ W rfl (Below.refl _ _))
  ·exact fun _ W _ hW _ hb hd _ hK _ => gd_step (wg0 (hd 31 174)) (fun hC => x_fa95 rfl (oD (by kernel_rfl)) (hb 8)) (hK _ W rfl (Below.refl _ _))
  ·exact fun _ W _ hW _ hb hd _ hK _ => gd_step (wg0 (hd 31 174)) (fun hC => x_ld3 rfl (cnd (hd 32 175) hC) ((blk_cell (cX W hW) 3).trans rfl)) (hK _ W rfl (Below.refl _ _))
  ·exact fun _ W _ hW _ hb hd _ hK _ => gd_step (wg0 (hd 31 174)) (fun hC => x_neq rfl (cnd (hd 33 176) hC) rfl) (hK _ W rfl (Below.refl _ _))
  ·exact fun _ W _ hW _ hb hd _ hK _ => gd_step (wg0 (hd 31 174)) (fun hC => x_move rfl (cnd (hd 34 177) hC)) (hK _ W rfl (Below.refl _ _))
  ·exact fun _ W _ hW _ hb hd _ hK _ => gd_step (wg (hd 35 178)) (fun hC => x_fa95 rfl (oD (by kernel_rfl)) (hb 8)) (hK _ W rfl (Below.refl _ _))
  ·exact fun _ W _ hW _ hb hd _ hK _ => gd_step (wg (hd 35 178)) (fun hC => x_ld3 rfl (cnd (hd 36 179) hC) ((blk_cell (cX W hW) 4).trans rfl)) (hK _ W rfl (Below.refl _ _))
  ·exact fun _ W _ hW _ hb hd _ hK _ => gd_step (wg (hd 35 178)) (fun hC => x_neq rfl (cnd (hd 37 180) hC) rfl) (hK _ W rfl (Below.refl _ _))
  ·exact fun _ W _ hW _ hb hd _ hK _ => gd_step (wg0 (hd 31 174)) (fun hC => x_and rfl (cnd (hd 35 178) hC) (cnd_and (hd 38 181) hC)) (hK _ W rfl (Below.refl _ _))
  ·exact fun _ W _ hW _ hb hd _ hK _ => gd_step (C := true) wn_ (fun _ => x_or rfl (hd 31 174) (hd 39 182)) (hK _ W rfl (Below.refl _ _))
  intro vals F W B hF hW hBB hV
  have hf : vals 183 = .bool ((((((decide (u < 0)) || (!ra)) || (!rb)) || ((x3 == 2) && (!rc))) || ((x3 != 2) && (x4 != 0)))) := hV 40 183 (oD (by kernel_rfl)) rfl
  have HB9 := aM (HW W hW)
  have BN9 := aM (And.intro (cN W hW) BN.out.2)
  clear HB BN
  have HB := HB9
  have BN := BN9
  clear HB9 BN9 hW HW cN cX HX
  rw [hF]
  clear hF hV hBB
  simp only [cond_true, List.take, fillA, Act.put, List.setIfInBounds_toArray, List.set_cons_zero, List.set_cons_succ, hf]
  clear hf
  cases hR : (((((decide (u < 0)) || (!ra)) || (!rb)) || ((x3 == 2) && (!rc))) || ((x3 != 2) && (x4 != 0))) with
  | true =>
   obtain ⟨hn0, hn1, hn2, hn3, hn4, hn5⟩ := swc6 BN.out.1
   have hN : t3 = false := HF.out hR
   subst hN
   obtain rfl := (ifz H.out).1 rfl
   go_wp2
   go_ret
   exact ⟨rfl, HB.out⟩
  | false =>
   obtain ⟨hn0, hn1, hn2, hn3, hn4, hn5⟩ := swc6 BN.out.1
   have HL := aM (HT.out hR)
   clear HT HF
   go_wp2
   go_roundg (l0_4.length - (kk + 1))
   case measure => omega
   case rel => exact ⟨kk + 1, by omega, by omega, by go_num, HB, BN, HL⟩
end Go.Proofs.YtgibacfgjmdjdaaDoor.PFnExactIsStable
end
section
namespace Go.Proofs.YtgibacfgjmdjdaaDoor.PFnExactIsStable
open Go.RowKit Go.Proofs.YtgibacfgjmdjdaaDoorW.PrintWords Go.Proofs.YtgibacfgjmdjdaaDoorW.PrintLast Go.Proofs.YtgibacfgjmdjdaaDoorW.PrintMore
attribute [local go_sem] max2_int min2_int max_two min_two max_three min_three max_four min_four   -- for this text's walks alone
set_option linter.unusedVariables false
set_option maxHeartbeats 8000000
set_option maxRecDepth 100000
set_option linter.unusedSimpArgs false
mutual
def spec_l07Env.j0 : Nat → List Int → List Bool → Bool → List ByteArray → List (S92) → List Int → List Int → List (S95) → List (S97) → Option (Int)
 | 0, _, _, _, _, _, _, _, _, _ => none
 | k + 1, x1, x2, x15, x235000, x235001, x235002, x235003, x235004, x235005 => if x15 = true then (some 2) else ((spec_NetOK.f k x235000 x235001 x235002 x235003 x235004 x235005).bind fun t235 => (if t235 = true then (if (x1.length : Int) = (x235003.length : Int) then (spec_l07Env.j1 k x1 ((x2.length : Int) != (x235001.length : Int))) else (spec_l07Env.j1 k x1 true)) else (some 1)))
def spec_l07Env.j1 : Nat → List Int → Bool → Option (Int)
 | 0, _, _ => none
 | k + 1, x1, x32 => if x32 = true then (some 5) else (spec_l07Env.l0 k x1 0)
def spec_l07Env.l0 : Nat → List Int → Int → Option (Int)
 | 0, _, _ => none
 | k + 1, x1, x7 => if x7 < (x1.length : Int) then (if 0 ≤ x7 then ((spec_l01In.f (rd x1 x7) 0 2).bind fun t237 => (if t237 = true then (spec_l07Env.l0 k x1 (wrap64 (x7 + 1))) else (some 5))) else (none)) else (some 0)
end
def spec_l07Env.f (k : Nat) (l0_0 : List ByteArray) (l0_1 : List (S92)) (l0_2 : List Int) (l0_3 : List Int) (l0_4 : List (S95)) (l0_5 : List (S97)) (l1 : List Int) (l2 : List Bool) : Option (Int) := if (l1.length : Int) > 4096 then (spec_l07Env.j0 k l1 l2 true l0_0 l0_1 l0_2 l0_3 l0_4 l0_5) else (spec_l07Env.j0 k l1 l2 (decide ((l2.length : Int) > 4096)) l0_0 l0_1 l0_2 l0_3 l0_4 l0_5)
def spec_l07None.f  : Option (Int × Int × Int × Bool) := some ((-3), 0, 0, false)
def VP.box (n : Nat) (cs : Array Value) (ty : TypeId) : VP := ⟨fun B W v => ∃ g, v = .pointer (some ⟨g, 0, none⟩) ∧ n ≤ g ∧ B g ∧ W.heap[g]? = some (.cells cs ty (0, 0)), fun B B' W W' v hb h1 _ h => by
 obtain ⟨g, e, hn, hB, hg⟩ := h
 exact ⟨g, e, hn, h1 g hB, blk_below hg hb⟩⟩
section
variable {ops : Array Oper} {Q : Exit → Act → World → Prop} {o : Oper} {b : Act} {W : World} {K : Act → World → Prop} {s s1 s2 s3 : Tmp}
theorem x_ld38 {g : Nat} {v0 v1 v2 v3 v4 v5 : Value} (ho : o.op = .load 36 (.tmp s)) (h : b.eval (.tmp s) = .pointer (some ⟨g, 0, none⟩)) (hc : W.heap[g]? = some (.cells #[v0, v1, v2, v3, v4, v5] 36 (0, 0))) : (execOp b.eval o).run Tryd.prog W = .ok (.value (.agg #[v0, v1, v2, v3, v4, v5])) W := by
 have h0 := (blk_cell hc 0).trans (show _ = some v0 from rfl)
 have h1 := (blk_cell hc 1).trans (show _ = some v1 from rfl)
 have h2 := (blk_cell hc 2).trans (show _ = some v2 from rfl)
 have h3 := (blk_cell hc 3).trans (show _ = some v3 from rfl)
 have h4 := (blk_cell hc 4).trans (show _ = some v4 from rfl)
 have h5 := (blk_cell hc 5).trans (show _ = some v5 from rfl)
 have hu38 := Tryd.underlying36
 unfold execOp
 rw [ho]
 simp only [h]
 go_simp
theorem x_ld4 {ad : Addr} {x : Bool} (ho : o.op = .load 4 (.tmp s)) (h : b.eval (.tmp s) = .pointer (some ad)) (hc : W.cell? ad = some (.bool x)) : (execOp b.eval o).run Tryd.prog W = .ok (.value (.bool x)) W := by
 unfold execOp
 rw [ho]
 simp only [h]
 go_simp
theorem args0 {b : Act} : (#[] : Array Operand).map b.eval = #[] := by simp
theorem x_ix34 {ad : Addr} {n c : Nat} {t : Int} (ho : o.op = .indexAddr 32 (.tmp s) (.tmp s2)) (h : b.eval (.tmp s) = .slice (some ad) n c) (h2 : b.eval (.tmp s2) = .int .i64 t) (h0 : 0 ≤ t) (h1 : t < (n : Int)) (hn : n ≤ 9223372036854775807) : (execOp b.eval o).run Tryd.prog W = .ok (.value (.pointer (some (ad.add (t.toNat * 3))))) W := by
 have hu34 := Tryd.underlying32
 unfold execOp
 rw [ho]
 simp only [h, h2]
 go_simp
theorem x_fb92 {a : Addr} (ho : o.op = .fieldAddr 62 (.tmp s) 2) (h : b.eval (.tmp s) = .pointer (some a)) : (execOp b.eval o).run Tryd.prog W = .ok (.value (.pointer (some ⟨a.block, a.off + 2, none⟩))) W := by
 have hu92 := Tryd.underlying62
 unfold execOp
 rw [ho]
 simp only [h]
 go_simp
end
theorem boxv4 {W : World} {g : Nat} {t : TypeId} {u0 u1 u2 u3 v0 v1 v2 v3 : Value} (hb : W.heap[g]? = some (.cells #[u0, u1, u2, u3] t (0, 0))) : ((((W.setCell ⟨g, 0, none⟩ v0).setCell ⟨g, 1, none⟩ v1).setCell ⟨g, 2, none⟩ v2).setCell ⟨g, 3, none⟩ v3).heap[g]? = some (.cells #[v0, v1, v2, v3] t (0, 0)) ∧ Kept W ((((W.setCell ⟨g, 0, none⟩ v0).setCell ⟨g, 1, none⟩ v1).setCell ⟨g, 2, none⟩ v2).setCell ⟨g, 3, none⟩ v3) (fun k => k = g) ∧ ∀ w0 : World, Below w0.heap.size w0 W → w0.heap.size ≤ g → Below w0.heap.size w0 ((((W.setCell ⟨g, 0, none⟩ v0).setCell ⟨g, 1, none⟩ v1).setCell ⟨g, 2, none⟩ v2).setCell ⟨g, 3, none⟩ v3) := by
 have hs : ∀ (V : World) (i : Nat) (u : Value), Kept V (V.setCell ⟨g, i, none⟩ u) (fun k => k = g) := fun V i u => Kept.setCell (S := fun k => k = g) (p := ⟨g, i, none⟩) (Kept.refl V _) (.inl rfl) u
 exact ⟨(blk_put (cs' := #[v0, v1, v2, v3]) (blk_put (cs' := #[v0, v1, v2, u3]) (blk_put (cs' := #[v0, v1, u2, u3]) (blk_put (cs' := #[v0, u1, u2, u3]) hb 0 _ rfl) 1 _ rfl) 2 _ rfl) 3 _ rfl), ((((hs _ 0 _).then_ (hs _ 1 _) (fun _ h => .inl h)).then_ (hs _ 2 _) (fun _ h => .inl h)).then_ (hs _ 3 _) (fun _ h => .inl h)), fun w0 h1 h2 => (below_set (below_set (below_set (below_set h1 h2) h2) h2) h2)⟩
theorem eqt {b : Bool} (h : (b == true) = true) : b = true := by cases b; cases h; rfl
def s66_7_T : Bool × List (List Nat × List Nat) := (true, [([], []), ([0], [0]), ([], []), ([2], [2]), ([3], [3]), ([4], [4]), ([1, 5], [1, 5]), ([6], [6]), ([7, 6], [7]), ([8], [8]), ([9, 8], [8, 9]), ([10, 8, 8], [8, 10]), ([11, 8], [8, 11]), ([8, 12], [8, 12]), ([13, 11], [13]), ([14], [14]), ([15, 14], [14, 15]), ([16, 14, 14], [14, 16]), ([17, 14], [14, 17]), ([14, 18], [14, 18]), ([19, 17], [19]), ([20], [20]), ([21, 20], [20, 21]), ([22, 20], [20, 22]), ([23, 20, 20], [20, 23]), ([24], [24]), ([25, 24], [24, 25]), ([24], [24]), ([24], [24]), ([28, 24], [24, 28]), ([26, 27, 29, 24, 24], [24, 26, 27, 29]), ([30, 24], [24, 30]), ([24, 31, 20], [20, 24, 31]), ([20, 32], [20, 32]), ([33, 30], [33]), ([34], [34]), ([35, 34], [34, 35]), ([36, 34], [34, 36]), ([37, 34, 34], [34, 37]), ([38], [38]), ([38, 38], [38]), ([39, 40, 38], [38, 39, 40]), ([38, 41, 34], [34, 38, 41]), ([34, 42], [34, 42])])
def routesO (k n : Nat) (all : List S92) : List S80 → Nat → Option Bool
 | [], _ => some true
 | x :: r, i => if (((!(inB x.f0 (-3) ((n : Int) - 1))) || (!(inB x.f1 0 1000))) || (!(inB x.f2 0 10000))) = true then some false else (if decide (x.f0 ≥ 0) = true then spec_l06Link.f k all (i : Int) x.f0 else some 0).bind fun u => if ((decide (x.f0 ≥ 0) && decide (u < 0)) || ((x.f0 == (-3)) && (!((x.f0 == (-3)) && ((x.f1 == 0) && ((x.f2 == 0) && (x.f3 == false))))))) = true then some false else routesO k n all r (i + 1)
def spec_l07Routes.f (k : Nat) (l0_0 : List ByteArray) (l0_1 : List S92) (l0_2 : List Int) (l0_3 : List Int) (l0_4 : List S95) (l0_5 : List S97) (l1 : List S80) : Option Bool := if l1.length = l0_0.length then routesO k l0_0.length l0_1 l1 0 else some false
end Go.Proofs.YtgibacfgjmdjdaaDoor.PFnExactIsStable
end
section
namespace Go.Proofs.YtgibacfgjmdjdaaDoor.PFnExactIsStable
open Go.RowKit Go.Proofs.YtgibacfgjmdjdaaDoorW.PrintWords Go.Proofs.YtgibacfgjmdjdaaDoorW.PrintLast Go.Proofs.YtgibacfgjmdjdaaDoorW.PrintMore
attribute [local go_sem] max2_int min2_int max_two min_two max_three min_three max_four min_four   -- for this text's walks alone
set_option linter.unusedVariables false
set_option maxHeartbeats 8000000
set_option maxRecDepth 100000
set_option linter.unusedSimpArgs false
def spec_l06Neighbours.l0 : Nat → Int → List Bool → List Int → Int → List ByteArray → List (S92) → List Int → List Int → List (S95) → List (S97) → Option (List Int)
 | 0, _, _, _, _, _, _, _, _, _, _ => none
 | k + 1, x1, x2, x7, x8, x240000, x240001, x240002, x240003, x240004, x240005 => if x8 < (x240000.length : Int) then ((spec_l06Link.f k x240001 x1 x8).bind fun t243 => (if t243 ≥ 0 then (if 0 ≤ t243 then (if t243 < (x2.length : Int) then (if rdOf false x2 t243 = true then (spec_l06Neighbours.l0 k x1 x2 x7 (wrap64 (x8 + 1)) x240000 x240001 x240002 x240003 x240004 x240005) else (if x7.length < 17592186044416 then (spec_l06Neighbours.l0 k x1 x2 (x7 ++ [x8]) (wrap64 (x8 + 1)) x240000 x240001 x240002 x240003 x240004 x240005) else (none))) else (none)) else (none)) else (spec_l06Neighbours.l0 k x1 x2 x7 (wrap64 (x8 + 1)) x240000 x240001 x240002 x240003 x240004 x240005))) else (some x7)
def spec_l06Neighbours.f (k : Nat) (l0_0 : List ByteArray) (l0_1 : List (S92)) (l0_2 : List Int) (l0_3 : List Int) (l0_4 : List (S95)) (l0_5 : List (S97)) (a1 : Int) (l2 : List Bool) : Option (List Int) := spec_l06Neighbours.l0 k a1 l2 (([] : List Int)) 0 l0_0 l0_1 l0_2 l0_3 l0_4 l0_5
def spec_l07Has.l0 : Nat → List Int → Int → Int → Option (Int)
 | 0, _, _, _ => none
 | k + 1, x0, x1, x5 => if x5 < (x0.length : Int) then (if 0 ≤ x5 then (if (rd x0 x5) = x1 then (some x5) else (spec_l07Has.l0 k x0 x1 (wrap64 (x5 + 1)))) else (none)) else (some (-1))
def spec_l07Has.f (k : Nat) (l0 : List Int) (a1 : Int) : Option (Int) := spec_l07Has.l0 k l0 a1 0
def spec_l07Through.l0 : Nat → List (S80) → Int → Int → Int → Option (Bool)
 | 0, _, _, _, _ => none
 | k + 1, x0, x2, x7, x8 => if x8 ≤ (x0.length : Int) then (if x7 = x2 then (some true) else (if x7 < 0 then (some false) else (if 0 ≤ x7 then (if x7 < (x0.length : Int) then (if ((rd_T80 x0 x7).f0) < 0 then (some false) else (spec_l07Through.l0 k x0 x2 ((rd_T80 x0 x7).f0) (wrap64 (x8 + 1)))) else (none)) else (none)))) else (some true)
def spec_l07Through.f (k : Nat) (l0 : List (S80)) (a1 : Int) (a2 : Int) : Option (Bool) := spec_l07Through.l0 k l0 a2 a1 0
theorem box4 {W : World} {g : Nat} {t : TypeId} {v0 v1 v2 v3 : Value} (h : W.heap[g]? = some (.cells #[v0, v1, v2, v3] t (0, 0))) : W.cell? ⟨g, 0, none⟩ = some v0 ∧ W.cell? ⟨g, 1, none⟩ = some v1 ∧ W.cell? ⟨g, 2, none⟩ = some v2 ∧ W.cell? ⟨g, 3, none⟩ = some v3 :=
 ⟨(blk_cell h 0).trans rfl, (blk_cell h 1).trans rfl, (blk_cell h 2).trans rfl, (blk_cell h 3).trans rfl⟩
theorem box5 {W : World} {g : Nat} {t : TypeId} {v0 v1 v2 v3 v4 : Value} (h : W.heap[g]? = some (.cells #[v0, v1, v2, v3, v4] t (0, 0))) : W.cell? ⟨g, 0, none⟩ = some v0 ∧ W.cell? ⟨g, 1, none⟩ = some v1 ∧ W.cell? ⟨g, 2, none⟩ = some v2 ∧ W.cell? ⟨g, 3, none⟩ = some v3 ∧ W.cell? ⟨g, 4, none⟩ = some v4 :=
 ⟨(blk_cell h 0).trans rfl, (blk_cell h 1).trans rfl, (blk_cell h 2).trans rfl, (blk_cell h 3).trans rfl, (blk_cell h 4).trans rfl⟩
theorem boxv5 {W : World} {g : Nat} {t : TypeId} {u0 u1 u2 u3 u4 v0 v1 v2 v3 v4 : Value} (hb : W.heap[g]? = some (.cells #[u0, u1, u2, u3, u4] t (0, 0))) : (((((W.setCell ⟨g, 0, none⟩ v0).setCell ⟨g, 1, none⟩ v1).setCell ⟨g, 2, none⟩ v2).setCell ⟨g, 3, none⟩ v3).setCell ⟨g, 4, none⟩ v4).heap[g]? = some (.cells #[v0, v1, v2, v3, v4] t (0, 0)) ∧ Kept W (((((W.setCell ⟨g, 0, none⟩ v0).setCell ⟨g, 1, none⟩ v1).setCell ⟨g, 2, none⟩ v2).setCell ⟨g, 3, none⟩ v3).setCell ⟨g, 4, none⟩ v4) (fun k => k = g) ∧ ∀ w0 : World, Below w0.heap.size w0 W → w0.heap.size ≤ g → Below w0.heap.size w0 (((((W.setCell ⟨g, 0, none⟩ v0).setCell ⟨g, 1, none⟩ v1).setCell ⟨g, 2, none⟩ v2).setCell ⟨g, 3, none⟩ v3).setCell ⟨g, 4, none⟩ v4) := by
 have hs : ∀ (V : World) (i : Nat) (u : Value), Kept V (V.setCell ⟨g, i, none⟩ u) (fun k => k = g) := fun V i u => Kept.setCell (S := fun k => k = g) (p := ⟨g, i, none⟩) (Kept.refl V _) (.inl rfl) u
 exact ⟨(blk_put (cs' := #[v0, v1, v2, v3, v4]) (blk_put (cs' := #[v0, v1, v2, v3, u4]) (blk_put (cs' := #[v0, v1, v2, u3, u4]) (blk_put (cs' := #[v0, v1, u2, u3, u4]) (blk_put (cs' := #[v0, u1, u2, u3, u4]) hb 0 _ rfl) 1 _ rfl) 2 _ rfl) 3 _ rfl) 4 _ rfl), (((((hs _ 0 _).then_ (hs _ 1 _) (fun _ h => .inl h)).then_ (hs _ 2 _) (fun _ h => .inl h)).then_ (hs _ 3 _) (fun _ h => .inl h)).then_ (hs _ 4 _) (fun _ h => .inl h)), fun w0 h1 h2 => (below_set (below_set (below_set (below_set (below_set h1 h2) h2) h2) h2) h2)⟩
theorem boxf {W : World} {g i : Nat} {t : TypeId} {v : Value} {cs cs' : Array Value} (hb : W.heap[g]? = some (.cells cs t (0, 0))) (he : cs.setIfInBounds i v = cs') : (W.setCell ⟨g, i, none⟩ v).heap[g]? = some (.cells cs' t (0, 0)) ∧ Kept W (W.setCell ⟨g, i, none⟩ v) (fun k => k = g) ∧ ∀ w0 : World, Below w0.heap.size w0 W → w0.heap.size ≤ g → Below w0.heap.size w0 (W.setCell ⟨g, i, none⟩ v) :=
 ⟨blk_put hb i v he, Kept.setCell (S := fun k => k = g) (p := ⟨g, i, none⟩) (Kept.refl W _) (.inl rfl) v, fun w0 h1 h2 => below_set h1 h2⟩
def s101_1_T : Bool × List (List Nat × List Nat) := (true, [([], []), ([], []), ([1], [1]), ([], []), ([3], [3]), ([], []), ([5], [5]), ([], []), ([], []), ([6, 7, 8], [6, 7, 8]), ([4, 9], [4, 9]), ([10], [10]), ([11], [11]), ([2, 12], [2, 12]), ([], []), ([14], [14]), ([0, 13, 15], [0, 13, 15]), ([], []), ([17, 16, 9, 0, 1, 2, 3, 4, 5, 6, 7, 8, 9, 10, 11, 12, 13, 14, 15, 16, 17], [16, 17])])
def impO (a b : Int) : List S95 → Int → Bool → Option (Int × Bool)
 | [], p, m => some (p, m)
 | x :: r, p, m => if ((((x.f0 != a) || (x.f1 != b)) || ((x.f2 == 1) && (!m))) || ((x.f2 == 2) && m)) = true then impO a b r p m else (if (x.f3 == 1) = true then none else (if (x.f3 == 2) = true then impO a b r x.f4 m else impO a b r p (x.f3 == 3)))
def resO (a L : Int) : Option (Int × Bool) → Int × Int × Int × Bool
 | none => (-3, 0, 0, false)
 | some q => (a, q.1, L, q.2)
def spec_l07Import.f (k : Nat) (l0_0 : List ByteArray) (l0_1 : List S92) (l0_2 : List Int) (l0_3 : List Int) (l0_4 : List S95) (l0_5 : List S97) (a1 : Int) (a2 : Int) (a3_0 : Int) (a3_1 : Int) (a3_2 : Int) (a3_3 : Bool) : Option (Int × Int × Int × Bool) := (spec_l06Link.f k l0_1 a1 a2).bind fun t => if 0 ≤ t ∧ t < (l0_1.length : Int) then some (resO a2 (wrap64 (a3_2 + (rd_T92 l0_1 t).f2)) (impO a1 a2 l0_4 100 a3_3)) else none
end Go.Proofs.YtgibacfgjmdjdaaDoor.PFnExactIsStable
end
