/- FnExactNetText: spec.l06Text: the reference writes the same text. Conditions: the form's own reach alone. -/
import Derived.Test.YtgibacfgjmdjdaaDoorNW
import Derived.Test.YtgibacfgjmdjdaaDoorDB3
namespace Go.Proofs.YtgibacfgjmdjdaaDoor.PFnExactIsStable
open Go.RowKit Go.Proofs.YtgibacfgjmdjdaaDoorW.PrintWords Go.Proofs.YtgibacfgjmdjdaaDoorW.PrintLast Go.Proofs.YtgibacfgjmdjdaaDoorW.PrintMore
attribute [local go_sem] max2_int min2_int max_two min_two max_three min_three max_four min_four   -- for this text's walks alone
set_option linter.unusedVariables false
set_option linter.unusedSimpArgs false
set_option maxHeartbeats 80000000
set_option maxRecDepth 100000
theorem rL_eq (x : ByteArray) : rL x = [114, 111, 117, 116, 101, 114, 32] ++ x.data.toList ++ [10] := by
 simp [rL, lineT, Lib.join_cons, Lib.joinTail]
theorem lL_eq (l0 : List ByteArray) (x : S92) : lL l0 x = [108, 105, 110, 107, 32] ++ nm l0 x.f0 ++ [32] ++ nm l0 x.f1 ++ [32, 99, 111, 115, 116, 32] ++ Lib.itoa x.f2 ++ [10] := by
 simp [lL, lineT, Lib.join_cons, Lib.joinTail]
theorem oL_eq (l0 : List ByteArray) (x : Int) : oL l0 x = [111, 114, 105, 103, 105, 110, 32] ++ nm l0 x ++ [10] := by
 simp [oL, lineT, Lib.join_cons, Lib.joinTail]
theorem eL_eq (l0 : List ByteArray) (x : Int) : eL l0 x = [101, 120, 116, 101, 114, 110, 97, 108, 32] ++ nm l0 x ++ [10] := by
 simp [eL, lineT, Lib.join_cons, Lib.joinTail]
theorem iL_eq (l0 : List ByteArray) (x : S95) : iL l0 x = [105, 109, 112, 111, 114, 116, 32] ++ nm l0 x.f0 ++ [32, 102, 114, 111, 109, 32] ++ nm l0 x.f1 ++ whenT x.f2 ++ doT x.f3 x.f4 ++ [10] := by
 simp [iL, lineT, Lib.join_cons, Lib.joinTail]
theorem fL_eq (l0 : List ByteArray) (x : S97) : fL l0 x = [102, 105, 108, 116, 101, 114, 32] ++ nm l0 x.f0 ++ [32, 116, 111, 32] ++ nm l0 x.f1 ++ [32, 112, 111, 114, 116, 32] ++ Lib.itoa x.f2 ++ [32] ++ Lib.itoa x.f3 ++ [10] := by
 simp [fL, lineT, Lib.join_cons, Lib.joinTail]
section
variable {P : Program} {ops : Array Oper} {Q : Exit → Act → World → Prop}
def StepOkM (P : Program) (ops : Array Oper) (Q : Exit → Act → World → Prop) (a0 : Act) (w0 : World) (L : List (Option Tmp)) (T : Bool × List (List Nat × List Nat)) (V : List VP) (m : Nat) (i : Nat) (o : Oper) : Prop :=
  ∀ (b : Act) (W : World) (B : Nat → Prop), Below w0.heap.size w0 W → (∀ k, B k → w0.heap.size ≤ k ∧ k < W.heap.size) → (∀ (t : Nat) (_ : (L.take m).contains (some t) = false := by kernel_rfl), b.eval (.tmp t) = a0.eval (.tmp t)) →
    (∀ (j t : Nat) (_ : ((T.2.getD i ([], [])).1).contains j = true := by kernel_rfl) (_ : L[j]? = some (some t) := by rfl), (V.getD j VP.any).p B W (b.eval (.tmp t))) →
    ∀ K : Act → World → Prop, (∀ v W', (V.getD i VP.any).p B W' v → Below W.heap.size W W' → K (b.put o.dst v) W') → (∀ v W', (V.getD i VP.any).p (fun k => B k ∨ k = W.heap.size) W' v → Below W.heap.size W W' → W.heap.size < W'.heap.size → K (b.put o.dst v) W') → if Region.wanted o (yielded ops b.tmps) = true then Oper.wp P o b W K Q else K (b.put o.dst undef) W
theorem any_tailM {id : Nat} {a0 : Act} {w : World} {T : Bool × List (List Nat × List Nat)} {R : List Oper} (L : List (Option Tmp)) (n m : Nat) (Bt : List Nat) (V : List VP) (hm : P.follows .mixedOrders = true) (hT : rtab .any ops = T) (hL : ops.toList.map (·.dst) = L) (hn : a0.tmps.size = n) (hc : okL L n m T Bt = true) (hR : ops.toList.drop m = R)
    (step : Each (StepOkM P ops Q a0 w.drew L T V m) m 0 ops.toList) (last : Tail P ops Q a0 w.drew L m V R) : (Code.region id ops true).wp P Q a0 w := by
  simp only [okL, Bool.and_eq_true, decide_eq_true_eq] at hc
  obtain ⟨⟨⟨⟨c1, c2⟩, c3⟩, c4, c4b⟩, c5⟩ := hc
  have hsz : ops.size = L.length := by rw [← hL]; simp
  have hdst : ∀ (i : Nat) (o : Oper), ops[i]? = some o → L[i]? = some o.dst := by
    intro i o ho
    rw [← hL, List.getElem?_map, Array.getElem?_toList, ho]
    rfl
  have hneeds : ∀ (i : Nat) (o : Oper), ops[i]? = some o → (T.2.getD i ([], [])).1 = needsOf .any o := by
    intro i o ho
    rw [← hT, List.getD_eq_getElem?_getD, rtab_some ho]
    rfl
  have hneed : ∀ (i : Nat) (o : Oper) (l : Array Bool), ops[i]? = some o → (∀ e ∈ o.after, Region.binds .any e = true → l.getD e.on false = true) → ∀ j, ((T.2.getD i ([], [])).1).contains j = true → l.getD j false = true := by
    intro i o l ho hall j hj
    rw [hneeds i o ho] at hj
    unfold needsOf at hj
    rw [List.contains_iff_mem, List.mem_map] at hj
    obtain ⟨e, he, rfl⟩ := hj
    rw [List.mem_filter] at he
    exact hall e (by simpa using he.1) he.2
  have hback : ∀ (i : Nat) (o : Oper) (l : Array Bool), ops[i]? = some o → (∀ j, ((T.2.getD i ([], [])).1).contains j = true → l.getD j false = true) → l.getD i true = false → i ∈ Region.ready .any ops l := by
    intro i o l ho h hl
    refine mem_ready.2 ⟨hl, o, ho, fun e he hb => ?_⟩
    refine h e.on ?_
    rw [hneeds i o ho, List.contains_iff_mem]
    unfold needsOf
    rw [List.mem_map]
    exact ⟨e, by rw [List.mem_filter]; exact ⟨by simpa using he, hb⟩, rfl⟩
  have hlt : ∀ (i : Nat) (t : Tmp), i < m → L[i]? = some (some t) → t < n := by
    intro i t hi ht
    have := List.all_eq_true.1 c2 (some t) (List.mem_of_getElem? (i := i) (by rw [List.getElem?_take_of_lt hi]; exact ht))
    simpa using this
  have huniq : ∀ (i j : Nat) (t : Tmp), i < m → j < m → L[i]? = some (some t) → L[j]? = some (some t) → i = j := by
    intro i j t hi hj h1 h2
    exact nodup_get c3 (by rw [List.getElem?_take_of_lt hi]; exact h1) (by rw [List.getElem?_take_of_lt hj]; exact h2)
  have g1 : ∀ (l : Array Bool) (i : Nat), i < l.size → l.getD i true = false → l.getD i false = false := by
    intro l i hi h
    simp only [Array.getD_eq_getD_getElem?, Array.getElem?_eq_getElem hi, Option.getD_some] at h ⊢
    exact h
  have g2 : ∀ (l : Array Bool) (i : Nat), i < l.size → l.getD i false ≠ true → l.getD i true = false := by
    intro l i hi h
    simp only [Array.getD_eq_getD_getElem?, Array.getElem?_eq_getElem hi, Option.getD_some] at h ⊢
    simpa using h
  have htail : ∀ (l : Array Bool) (d : Nat), ListedClosed .any ops l → l.size = L.length → m ≤ d → d ∈ Region.ready .any ops l → ∀ i, i < d → l.getD i false = true := by
    intro l d hcl hls hmd hd i hid
    apply Classical.byContradiction
    intro hno
    obtain ⟨_, o, ho, _⟩ := mem_ready.1 hd
    have hdl : d < L.length := by rw [← hsz]; exact (Array.getElem?_eq_some_iff.1 ho).1
    have hb := List.all_eq_true.1 c4b d (List.mem_range.2 hdl)
    rw [Bool.or_eq_true, decide_eq_true_eq] at hb
    have hbit := List.all_eq_true.1 (hb.resolve_left (by omega)) i (List.mem_range.2 hid)
    have hTl : T.2.length = L.length := by rw [← hT, rtab_length, hsz]
    have hr := reach_bit c4 (d + 1) d (by omega) (by rw [hTl]; exact hdl) hbit
    rw [← hT, ← reach_eq] at hr
    exact Region.reach_not_ready hcl hr (g2 l i (by omega) hno) hd
  have hfirst : ∀ (l : Array Bool), l.size = L.length → (∃ i, i < L.length ∧ l.getD i true = false) → Region.ready .any ops l ≠ [] := by
    intro l hls ⟨i, hi, hil⟩ hr
    have fst : ∀ (d i : Nat), d = i → (i < L.length ∧ l.getD i true = false) → ∃ i0, i0 < L.length ∧ l.getD i0 true = false ∧ ∀ j, j < i0 → l.getD j false = true := by
      intro d
      induction d using Nat.strongRecOn with
      | _ d ih =>
        intro i hd hi
        by_cases h : ∀ j, j < i → l.getD j false = true
        · exact ⟨i, hi.1, hi.2, h⟩
        · simp only [Classical.not_forall] at h
          obtain ⟨j, hj, hjl⟩ := h
          exact ih j (by omega) j rfl ⟨by omega, g2 l j (by omega) hjl⟩
    obtain ⟨i0, h1, h2, h3⟩ := fst i i rfl ⟨hi, hil⟩
    have ho : ops[i0]? = some (ops[i0]'(by omega)) := Array.getElem?_eq_getElem (by omega)
    have := hback i0 _ l ho (fun j hj => h3 j (by
      have := List.all_eq_true.1 c5 i0 (List.mem_range.2 h1)
      have := List.all_eq_true.1 this j (List.contains_iff_mem.1 hj)
      simpa using this)) h2
    rw [hr] at this
    cases this
  have hset : ∀ (l : Array Bool) (i j : Nat), j ≠ i → ∀ b, (l.setIfInBounds i true).getD j b = l.getD j b := by
    intro l i j hj b
    simp [Array.getD_eq_getD_getElem?, Array.getElem?_setIfInBounds, Ne.symm hj]
  have hset1 : ∀ (l : Array Bool) (i : Nat), i < l.size → ∀ b, (l.setIfInBounds i true).getD i b = true := by
    intro l i hi b
    simp [Array.getD_eq_getD_getElem?, Array.getElem?_setIfInBounds, hi]
  -- the tail, one by one
  have tail : ∀ (q d : Nat) (l : Array Bool) (a : Act) (W : World) (fuel : Nat), d + q = L.length → m ≤ d → q ≤ fuel → l.size = L.length → ListedClosed .any ops l → (∀ i, i < d → l.getD i false = true) → (∀ i, d ≤ i → i < L.length → l.getD i true = false) → wpList P ops Q (ops.toList.drop d) a W → wpAny P .any ops Q fuel l a W := by
    intro q
    induction q with
    | zero =>
      intro d l a W fuel hd hmd hq hls hcl hall _ hw
      rw [List.drop_of_length_le (by rw [Array.length_toList]; omega)] at hw
      refine wpAny_done ?_ hw fuel
      rw [List.eq_nil_iff_forall_not_mem]
      intro j hj
      obtain ⟨q1, oj, hoj, _⟩ := mem_ready.1 hj
      have hjm : j < L.length := by rw [← hsz]; exact (Array.getElem?_eq_some_iff.1 hoj).1
      have := g1 l j (by omega) q1
      rw [hall j (by omega)] at this
      cases this
    | succ q ih =>
      intro d l a W fuel hd hmd hq hls hcl hall hun hw
      obtain ⟨fuel, rfl⟩ : ∃ f, fuel = f + 1 := ⟨fuel - 1, by omega⟩
      have hdl : d < ops.toList.length := by rw [Array.length_toList]; omega
      rw [List.drop_eq_getElem_cons hdl] at hw
      refine ⟨fun hr => absurd hr (hfirst l hls ⟨d, by omega, hun d (Nat.le_refl _) (by omega)⟩), fun i hi => ?_⟩
      have hid : i = d := by
        obtain ⟨q1, oi, hoi, _⟩ := mem_ready.1 hi
        have hil : i < L.length := by rw [← hsz]; exact (Array.getElem?_eq_some_iff.1 hoi).1
        rcases Nat.lt_trichotomy i d with h | h | h
        · have := g1 l i (by omega) q1
          rw [hall i h] at this
          cases this
        · exact h
        · have := htail l i hcl hls (by omega) hi d h
          rw [g1 l d (by omega) (hun d (Nat.le_refl _) (by omega))] at this
          cases this
      subst hid
      have ho : ops[i]? = some ops.toList[i] := by rw [← Array.getElem?_toList]; exact List.getElem?_eq_getElem hdl
      have hw2 : wpOp P ops Q i (wpList P ops Q (ops.toList.drop (i + 1))) a W := by
        unfold wpOp
        rw [ho]
        exact hw
      refine wpOp_mono (fun a' w' h => ?_) hw2
      refine ih (i + 1) _ a' w' fuel (by omega) (by omega) (by omega) (by rw [Array.size_setIfInBounds]; exact hls) (hcl.set hi) (fun j hj => ?_) (fun j hj hjl => ?_) h
      · by_cases hji : j = i
        · subst hji; exact hset1 l j (by omega) _
        · rw [hset l i j hji]; exact hall j (by omega)
      · rw [hset l i j (by omega)]
        exact hun j (by omega) hjl
  refine wp_region_any hm ?_
  have key : ∀ (fuel : Nat) (l : Array Bool) (B : Nat → Prop) (a : Act) (W : World), AInv a0 w.drew L m V (fun i => l.getD i false) B a W → l.size = L.length → ListedClosed .any ops l → (∀ i, m ≤ i → i < L.length → l.getD i true = false) → (List.range L.length).countP (fun i => !l.getD i true) ≤ fuel → wpAny P .any ops Q fuel l a W := by
    intro fuel
    induction fuel with
    | zero =>
      intro l B a W inv hls hcl hun hf
      have h0 : (List.range L.length).countP (fun i => !l.getD i true) = 0 := by omega
      rw [List.countP_eq_zero] at h0
      exact absurd (by rw [hun m (Nat.le_refl _) c1]; rfl) (h0 m (List.mem_range.2 c1))
    | succ fuel ih =>
      intro l B a W inv hls hcl hun hf
      refine ⟨fun hr => absurd hr (hfirst l hls ⟨m, c1, hun m (Nat.le_refl _) c1⟩), fun i hi => ?_⟩
      obtain ⟨h1, o, ho, h2'⟩ := mem_ready.1 hi
      have h2 := hneed i o l ho h2'
      have hil : i < L.length := by rw [← hsz]; exact (Array.getElem?_eq_some_iff.1 ho).1
      by_cases him : i < m
      · unfold wpOp
        rw [ho]
        simp only
        have hst := Each.at m 0 ops.toList step i o him (by rw [Array.getElem?_toList]; exact ho)
        rw [Nat.zero_add] at hst
        have hgo : ∀ (B' : Nat → Prop) v W', (V.getD i VP.any).p B' W' v → Below W.heap.size W W' → (∀ k, B k → B' k) → (∀ k, B' k → B k ∨ W.heap.size ≤ k) → (∀ k, B' k → w.drew.heap.size ≤ k ∧ k < W'.heap.size) → wpAny P .any ops Q fuel (l.setIfInBounds i true) (a.put o.dst v) W' := by
          intro B' v W' hv hb hB0 hB1 hB2
          refine ih _ B' _ _ (inv.step him (hdst i o ho) (hset1 l i (by omega) _) (fun j hj => hset l i j hj _) huniq (fun i t h3 h4 => by rw [hn]; exact hlt i t h3 h4) hv hb hB0 hB1 hB2) (by rw [Array.size_setIfInBounds]; exact hls) (hcl.set hi) (fun j hj hjl => by rw [hset l i j (by omega)]; exact hun j hj hjl) ?_
          have := countP_lt (p := fun j => !l.getD j true) (q := fun j => !(l.setIfInBounds i true).getD j true) (List.range L.length) (fun j _ hq => by
            by_cases hji : j = i
            · subst hji
              rw [hset1 l j (by omega)] at hq
              cases hq
            · rwa [hset l i j hji] at hq) ⟨i, List.mem_range.2 hil, by rw [h1]; rfl, by rw [hset1 l i (by omega)]; rfl⟩
          omega
        have hst2 := hst a W B inv.below inv.boxes (fun t ht => inv.other t (fun j hj hjt => absurd (List.contains_iff_mem.2 (List.mem_of_getElem? (i := j) (by rw [List.getElem?_take_of_lt hj]; exact hjt))) (by rw [ht]; simp)))
          (fun j t hj hjt => by
            have hjm : j < m := by
              have := List.all_eq_true.1 c5 i (List.mem_range.2 hil)
              have := List.all_eq_true.1 this j (List.contains_iff_mem.1 hj)
              simp only [decide_eq_true_eq] at this
              omega
            exact inv.vals j t hjm hjt (h2 j hj)) (wpAny P .any ops Q fuel (l.setIfInBounds i true))
          (fun v W' hv hb => hgo B v W' hv hb (fun k hk => hk) (fun k hk => .inl hk) (fun k hk => ⟨(inv.boxes k hk).1, Nat.lt_of_lt_of_le (inv.boxes k hk).2 hb.size⟩))
          (fun v W' hv hb hlt2 => hgo _ v W' hv hb (fun k hk => .inl hk) (fun k hk => hk.elim .inl (fun h => .inr (Nat.le_of_eq h.symm))) (fun k hk => hk.elim (fun hk => ⟨(inv.boxes k hk).1, Nat.lt_of_lt_of_le (inv.boxes k hk).2 hb.size⟩) (fun h => by rw [h]; exact ⟨inv.below.size, hlt2⟩)))
        by_cases hw : Region.wanted o (yielded ops a.tmps) = true
        · rw [if_pos hw] at hst2 ⊢
          exact .inl hst2
        · rw [if_neg hw] at hst2 ⊢
          exact hst2
      · have hall := htail l i hcl hls (by omega) hi
        have hime : i = m := by
          rcases Nat.lt_or_ge m i with h | h
          · have := hall m h
            rw [g1 l m (by omega) (hun m (Nat.le_refl _) c1)] at this
            cases this
          · omega
        subst hime
        have hl := last (fun t => a.eval (.tmp t)) a W B inv.filled inv.below inv.boxes (fun j t hj hjt => inv.vals j t hj hjt (hall j hj))
        rw [← hR] at hl
        have hdl : i < ops.toList.length := by rw [Array.length_toList]; omega
        rw [List.drop_eq_getElem_cons hdl] at hl
        have ho2 : ops[i]? = some ops.toList[i] := by rw [← Array.getElem?_toList]; exact List.getElem?_eq_getElem hdl
        have hw2 : wpOp P ops Q i (wpList P ops Q (ops.toList.drop (i + 1))) a W := by
          unfold wpOp
          rw [ho2]
          exact hl
        refine wpOp_mono (fun a' w' h => ?_) hw2
        refine tail (L.length - (i + 1)) (i + 1) _ a' w' fuel (by omega) (by omega) ?_ (by rw [Array.size_setIfInBounds]; exact hls) (hcl.set hi) (fun j hj => ?_) (fun j hj hjl => ?_) h
        · have hle : L.length - i ≤ (List.range L.length).countP (fun j => !l.getD j true) := by
            have hcount : ∀ (k : Nat), k ≤ L.length → k - i ≤ (List.range k).countP (fun j => !l.getD j true) := by
              intro k
              induction k with
              | zero => intro _; omega
              | succ k ihk =>
                intro hk
                rw [List.range_succ, List.countP_append, List.countP_cons, List.countP_nil]
                have := ihk (by omega)
                by_cases hki : i ≤ k
                · rw [hun k hki (by omega)]
                  simp only [Bool.not_false, if_true]
                  omega
                · omega
            exact hcount L.length (Nat.le_refl _)
          omega
        · by_cases hji : j = i
          · subst hji; exact hset1 l j (by omega) _
          · rw [hset l i j hji]; exact hall j (by omega)
        · rw [hset l i j (by omega)]
          exact hun j (by omega) hjl
  refine key ops.size _ (fun _ => False) a0 w.drew (AInv.start a0 w.drew L m V (fun i => ?_)) (by rw [Array.size_replicate, hsz]) (fun j oj hj hl => ?_) (fun i _ hi => ?_) ?_
  · by_cases hi : i < ops.size <;> simp [Array.getD_eq_getD_getElem?, hi]
  · exfalso
    by_cases hi : j < ops.size <;> simp [Array.getD_eq_getD_getElem?, hi] at hl
  · simp [Array.getD_eq_getD_getElem?, hsz, hi]
  · rw [hsz]
    exact Nat.le_trans List.countP_le_length (by simp)
theorem seq_tailM {id : Nat} {a0 : Act} {w : World} {R : List Oper} (L : List (Option Tmp)) (n m : Nat) (V : List VP) (hL : ops.toList.map (·.dst) = L) (hn : a0.tmps.size = n) (hc : okS L n m = true) (hR : ops.toList.drop m = R)
    (step : Each (StepOkM P ops Q a0 w L (seqT m) V m) m 0 ops.toList) (last : Tail P ops Q a0 w L m V R) : (Code.region id ops false).wp P Q a0 w := by
  simp only [okS, Bool.and_eq_true, decide_eq_true_eq] at hc
  obtain ⟨⟨c1, c2⟩, c3⟩ := hc
  have hsz : ops.size = L.length := by rw [← hL]; simp
  have hdst : ∀ (i : Nat) (o : Oper), ops[i]? = some o → L[i]? = some o.dst := by
    intro i o ho
    rw [← hL, List.getElem?_map, Array.getElem?_toList, ho]
    rfl
  have hlt : ∀ (i : Nat) (t : Tmp), i < m → L[i]? = some (some t) → t < n := by
    intro i t hi ht
    have := List.all_eq_true.1 c2 (some t) (List.mem_of_getElem? (i := i) (by rw [List.getElem?_take_of_lt hi]; exact ht))
    simpa using this
  have huniq : ∀ (i j : Nat) (t : Tmp), i < m → j < m → L[i]? = some (some t) → L[j]? = some (some t) → i = j := by
    intro i j t hi hj h1 h2
    exact nodup_get c3 (by rw [List.getElem?_take_of_lt hi]; exact h1) (by rw [List.getElem?_take_of_lt hj]; exact h2)
  refine wp_region_list ?_
  have key : ∀ (q d : Nat) (B : Nat → Prop) (a : Act) (W : World), d + q = m → AInv a0 w L m V (fun i => decide (i < d)) B a W → wpList P ops Q (ops.toList.drop d) a W := by
    intro q
    induction q with
    | zero =>
      intro d B a W hd inv
      obtain rfl : d = m := by omega
      rw [hR]
      exact last (fun t => a.eval (.tmp t)) a W B inv.filled inv.below inv.boxes (fun j t hj hjt => inv.vals j t hj hjt (decide_eq_true hj))
    | succ q ih =>
      intro d B a W hd inv
      have hdl : d < ops.toList.length := by rw [Array.length_toList]; omega
      have ho : ops[d]? = some ops.toList[d] := by rw [← Array.getElem?_toList]; exact List.getElem?_eq_getElem hdl
      rw [List.drop_eq_getElem_cons hdl]
      have hst := Each.at m 0 ops.toList step d _ (by omega) (List.getElem?_eq_getElem hdl)
      rw [Nat.zero_add] at hst
      have hTn : ((seqT m).2.getD d ([], [])).1 = List.range d := by
        have hdm : d < m := by omega
        simp [seqT, List.getD_eq_getElem?_getD, List.getElem?_range hdm]
      have hgo : ∀ (B' : Nat → Prop) v W', (V.getD d VP.any).p B' W' v → Below W.heap.size W W' → (∀ k, B k → B' k) → (∀ k, B' k → B k ∨ W.heap.size ≤ k) → (∀ k, B' k → w.heap.size ≤ k ∧ k < W'.heap.size) → wpList P ops Q (ops.toList.drop (d + 1)) (a.put ops.toList[d].dst v) W' := by
        intro B' v W' hv hb hB0 hB1 hB2
        exact ih (d + 1) B' _ _ (by omega) (inv.step (by omega) (hdst d _ ho) (decide_eq_true (by omega)) (fun j hj => by rw [decide_eq_decide]; omega) huniq (fun i t h3 h4 => by rw [hn]; exact hlt i t h3 h4) hv hb hB0 hB1 hB2)
      have hst2 := hst a W B inv.below inv.boxes (fun t ht => inv.other t (fun j hj hjt => absurd (List.contains_iff_mem.2 (List.mem_of_getElem? (i := j) (by rw [List.getElem?_take_of_lt hj]; exact hjt))) (by rw [ht]; simp)))
        (fun j t hj hjt => by
          rw [hTn] at hj
          have hjd : j < d := List.mem_range.1 (List.contains_iff_mem.1 hj)
          exact inv.vals j t (by omega) hjt (decide_eq_true hjd)) (wpList P ops Q (ops.toList.drop (d + 1)))
        (fun v W' hv hb => hgo B v W' hv hb (fun k hk => hk) (fun k hk => .inl hk) (fun k hk => ⟨(inv.boxes k hk).1, Nat.lt_of_lt_of_le (inv.boxes k hk).2 hb.size⟩))
        (fun v W' hv hb hlt2 => hgo _ v W' hv hb (fun k hk => .inl hk) (fun k hk => hk.elim .inl (fun h => .inr (Nat.le_of_eq h.symm))) (fun k hk => hk.elim (fun hk => ⟨(inv.boxes k hk).1, Nat.lt_of_lt_of_le (inv.boxes k hk).2 hb.size⟩) (fun h => by rw [h]; exact ⟨inv.below.size, hlt2⟩)))
      by_cases hw : Region.wanted ops.toList[d] (yielded ops a.tmps) = true
      · rw [if_pos hw] at hst2
        show (if _ then _ else _)
        rw [if_pos hw]
        exact .inl hst2
      · rw [if_neg hw] at hst2
        show (if _ then _ else _)
        rw [if_neg hw]
        exact hst2
  have := key m 0 (fun _ => False) a0 w (by omega) (AInv.start a0 w L m V (fun i => decide_eq_false (Nat.not_lt_zero i)))
  rwa [List.drop_zero] at this
end
section
variable {P : Program} {ops : Array Oper} {Q : Exit → Act → World → Prop} {o : Oper} {b : Act} {W : World} {K : Act → World → Prop} {s s1 s2 s3 : Tmp}
theorem x_ix24 {ad : Addr} {n c : Nat} {t : Int} (ho : o.op = .indexAddr 24 (.tmp s) (.tmp s2)) (h : b.eval (.tmp s) = .slice (some ad) n c) (h2 : b.eval (.tmp s2) = .int .i64 t) (h0 : 0 ≤ t) (h1 : t < (n : Int)) (hn : n ≤ 9223372036854775807) : (execOp b.eval o).run Tryd.prog W = .ok (.value (.pointer (some (ad.add t.toNat)))) W := by
 have hu24 := Tryd.underlying24
 unfold execOp
 rw [ho]
 simp only [h, h2]
 go_simp
theorem gv_ {p : Value → World → Prop} {u : Value} (hK : ∀ v W', p v W' → Below W.heap.size W W' → K (b.put o.dst v) W') (hr : (execOp b.eval o).run P W = .ok (.value u) W) (hp : p u W) (hg : o.guard = none := by exact rfl) :
  if Region.wanted o (yielded ops b.tmps) = true then Oper.wp P o b W K Q else K (b.put o.dst undef) W := gd_step (C := true) (wn_ hg) (fun _ => hr) (hK _ W hp (Below.refl _ _))
end
def VP.lic (cs : Array Value) (i : Nat) : VP := ⟨fun _ W v => ∃ g, v = .pointer (some ((⟨g, 0, none⟩ : Addr).add i)) ∧ W.heap[g]? = some (.cells cs 9 (0, 0)), fun B B' W W' v hb h1 _ h => by
 obtain ⟨g, e, hg⟩ := h
 exact ⟨g, e, blk_below hg hb⟩⟩
theorem lit_cell {W : World} {g i : Nat} {cs : Array Value} {v : Value} (h : W.heap[g]? = some (.cells cs 9 (0, 0))) (hi : cs[i]? = some v) : W.cell? ((⟨g, 0, none⟩ : Addr).add i) = some v := by
 rw [show (⟨g, 0, none⟩ : Addr).add i = ⟨g, i, none⟩ by simp [Addr.add]; exact fun h => h.symm, blk_cell h i]
 exact hi
def doW (d : Int) : List UInt8 := if d = 1 then [32, 100, 101, 110, 121] else if d = 2 then [32, 112, 114, 101, 102] else if d = 3 then [32, 109, 97, 114, 107] else [32, 99, 108, 101, 97, 114]
theorem doT_2 (n : Int) : doT 2 n = doW 2 ++ ([32] ++ Lib.itoa n) := rfl
theorem doT_ne {d : Int} (n : Int) (h : d ≠ 2) : doT d n = doW d := by
 unfold doT doW
 rw [if_neg h, if_neg h]
theorem doW_le (d : Int) : (doW d).length ≤ 6 := by
 unfold doW
 split
 · decide
 split
 · decide
 split <;> decide
theorem when_lit (d : Int) (h0 : 0 ≤ d) (h1 : d < 3) : (#[Value.string ⟨#[]⟩, .string ⟨#[32, 105, 102, 32, 109, 97, 114, 107]⟩, .string ⟨#[32, 105, 102, 32, 112, 108, 97, 105, 110]⟩] : Array Value)[d.toNat]? = some (.string (sB (whenT d))) := by
 have : d = 0 ∨ d = 1 ∨ d = 2 := by omega
 rcases this with rfl | rfl | rfl <;> rfl
theorem do_lit (d : Int) (h0 : 1 ≤ d) (h1 : d ≤ 4) : (#[Value.string ⟨#[]⟩, .string ⟨#[32, 100, 101, 110, 121]⟩, .string ⟨#[32, 112, 114, 101, 102]⟩, .string ⟨#[32, 109, 97, 114, 107]⟩, .string ⟨#[32, 99, 108, 101, 97, 114]⟩] : Array Value)[d.toNat]? = some (.string (sB (doW d))) := by
 have : d = 1 ∨ d = 2 ∨ d = 3 ∨ d = 4 := by omega
 rcases this with rfl | rfl | rfl | rfl <;> rfl
def sx_r11_T : Bool × List (List Nat × List Nat) := (true, [([], []), ([], []), ([], []), ([2], [2]), ([1, 3], [1, 3]), ([4], [4]), ([5], [5]), ([6], [6]), ([], []), ([], []), ([9], [9]), ([8, 10], [8, 10]), ([11], [11]), ([7, 12], [7, 12]), ([13], [13]), ([], []), ([15], [15]), ([16], [16]), ([14, 17], [14, 17]), ([18], [18]), ([0, 19], [0, 19]), ([20, 17, 0, 1, 2, 3, 4, 5, 6, 7, 8, 9, 10, 11, 12, 13, 14, 15, 16, 17, 18, 19, 20], [0, 20])])
theorem sx_r11_tab : rtab .any (opsOf Tryd.f15 11) = sx_r11_T := by kernel_rfl

def sx_r24_T : Bool × List (List Nat × List Nat) := (true, [([], []), ([], []), ([], []), ([2], [2]), ([1, 3], [1, 3]), ([4], [4]), ([5], [5]), ([6], [6]), ([], []), ([], []), ([9], [9]), ([8, 10], [8, 10]), ([11], [11]), ([7, 12], [7, 12]), ([], []), ([], []), ([15], [15]), ([14, 16], [14, 16]), ([17], [17]), ([13, 18], [13, 18]), ([], []), ([], []), ([21], [21]), ([20, 22], [20, 22]), ([23], [23]), ([19, 24], [19, 24]), ([0, 25], [0, 25]), ([26, 0, 1, 2, 3, 4, 5, 6, 7, 8, 9, 10, 11, 12, 13, 14, 15, 16, 17, 18, 19, 20, 21, 22, 23, 24, 25, 26], [0, 26])])
theorem sx_r24_tab : rtab .any (opsOf Tryd.f15 24) = sx_r24_T := by kernel_rfl

def sx_r32_T : Bool × List (List Nat × List Nat) := (true, [([], []), ([], []), ([], []), ([2], [2]), ([1, 3], [1, 3]), ([4], [4]), ([5], [5]), ([6], [6]), ([], []), ([], []), ([9], [9]), ([8, 10], [8, 10]), ([11], [11]), ([7, 12], [7, 12]), ([13], [13]), ([], []), ([15], [15]), ([16], [16]), ([14, 17], [14, 17]), ([18], [18]), ([], []), ([20], [20]), ([21, 17], [21]), ([19, 22], [19, 22]), ([23], [23]), ([0, 24], [0, 24]), ([25, 22, 0, 1, 2, 3, 4, 5, 6, 7, 8, 9, 10, 11, 12, 13, 14, 15, 16, 17, 18, 19, 20, 21, 22, 23, 24, 25], [0, 25])])
theorem sx_r32_tab : rtab .any (opsOf Tryd.f15 32) = sx_r32_T := by kernel_rfl
theorem spec_l06Text.calls (A0_0 : Option Addr) (c0_0 : Nat) (l0_0 : List ByteArray) (A0_1 : Option Addr) (c0_1 : Nat) (l0_1 : List S92) (A0_2 : Option Addr) (c0_2 : Nat) (l0_2 : List Int) (A0_3 : Option Addr) (c0_3 : Nat) (l0_3 : List Int) (A0_4 : Option Addr) (c0_4 : Nat) (l0_4 : List S95) (A0_5 : Option Addr) (c0_5 : Nat) (l0_5 : List S97) (w : World) (hN : NetFit l0_0 l0_1 l0_2 l0_3 l0_4 l0_5) (hr0_0 : Kd.C Kd.string w A0_0 l0_0.length l0_0) (hc0_0 : l0_0.length ≤ c0_0) (hr0_1 : Kd.C k92 w A0_1 l0_1.length l0_1) (hc0_1 : l0_1.length ≤ c0_1) (hr0_2 : Kd.C (Kd.int .i64) w A0_2 l0_2.length l0_2) (hc0_2 : l0_2.length ≤ c0_2) (hr0_3 : Kd.C (Kd.int .i64) w A0_3 l0_3.length l0_3) (hc0_3 : l0_3.length ≤ c0_3) (hr0_4 : Kd.C k95 w A0_4 l0_4.length l0_4) (hc0_4 : l0_4.length ≤ c0_4) (hr0_5 : Kd.C k97 w A0_5 l0_5.length l0_5) (hc0_5 : l0_5.length ≤ c0_5) :
  Calls Tryd.prog 15 #[.agg #[.slice A0_0 l0_0.length c0_0, .slice A0_1 l0_1.length c0_1, .slice A0_2 l0_2.length c0_2, .slice A0_3 l0_3.length c0_3, .slice A0_4 l0_4.length c0_4, .slice A0_5 l0_5.length c0_5]] w fun e w' => e = .returned (.string (sB (netT l0_0 l0_1 l0_2 l0_3 l0_4 l0_5))) ∧ Below w.heap.size w w' := by
 have hu38 := Tryd.underlying36
 have hu92 := Tryd.underlying62
 have hu95 := Tryd.underlying65
 have hu97 := Tryd.underlying67
 obtain ⟨HR0_0, HC0_0, HR0_1, HC0_1, HR0_2, HC0_2, HR0_3, HC0_3, HR0_4, HC0_4, HR0_5, HC0_5⟩ := as12 hr0_0 hc0_0 hr0_1 hc0_1 hr0_2 hc0_2 hr0_3 hc0_3 hr0_4 hc0_4 hr0_5 hc0_5
 clear hr0_0 hc0_0 hr0_1 hc0_1 hr0_2 hc0_2 hr0_3 hc0_3 hr0_4 hc0_4 hr0_5 hc0_5
 have HN := aM hN
 have HB := aM (Below.refl w.heap.size w)
 clear hN
 have HM : Aside0 (l0_0.length ≤ 9223372036854775807) := ⟨by have := HN.out.n0; omega⟩
 go_enter Tryd.func15, Tryd.ntmps15
 go_wp2_with (first | ((with_reducible refine gate_dst (N := 1) rfl ?_); refine box_event rfl (N := 1) rfl (cs := #[.slice A0_0 l0_0.length c0_0, .slice A0_1 l0_1.length c0_1, .slice A0_2 l0_2.length c0_2, .slice A0_3 l0_3.length c0_3, .slice A0_4 l0_4.length c0_4, .slice A0_5 l0_5.length c0_5]) (t := 36) (by go_simp; done) ?_; intro gn hgn w1 hbox hb; have BN := aM hbox; have GN := bGE HB.out hgn; replace HB := aB HB hb; clear hb hbox hgn; obtain ⟨hn0, hn1, hn2, hn3, hn4, hn5⟩ := swc6 BN.out))
 go_loopg [3, 5] l0_0.length (fun gg s3 s5 wr => ∃ (kk : Nat) (TT : List UInt8), kk ≤ l0_0.length ∧ l0_0.length - kk ≤ gg ∧ s3 = .string (sB TT) ∧ s5 = .int .i64 kk ∧ Aside0 (TT = ((l0_0.take kk).flatMap rL)) ∧ Aside0 (wr.heap[gn]? = some (.cells #[.slice A0_0 l0_0.length c0_0, .slice A0_1 l0_1.length c0_1, .slice A0_2 l0_2.length c0_2, .slice A0_3 l0_3.length c0_3, .slice A0_4 l0_4.length c0_4, .slice A0_5 l0_5.length c0_5] 36 (0, 0))) ∧ Aside0 (Below w.heap.size w wr))
 case atStart => exact ⟨0, [], Nat.zero_le _, by omega, rfl, rfl, ⟨rfl⟩, BN, HB⟩
 clear BN HB hn0 hn1 hn2 hn3 hn4 hn5 
 obtain ⟨kk, TT, hkk, hg, rfl, rfl, HTT, BN, HB⟩ := hrel
 obtain ⟨hn0, hn1, hn2, hn3, hn4, hn5⟩ := swc6 BN.out
 by_cases hlt : kk < l0_0.length
 · have hltz : (kk : Int) < (l0_0.length : Int) := by omega
   obtain ⟨ad, ea, CS0⟩ := Kd.at_string HR0_0.out (kk : Int) (by omega) hltz
   cases ea
   have hy : l0_0[kk]? = some l0_0[kk] := List.getElem?_eq_getElem hlt
   rw [rdOf_at hy (kk : Int) (Int.toNat_natCast kk)] at CS0
   have hz := HN.out.name _ (List.getElem_mem hlt)
   obtain ⟨y, hyy⟩ : ∃ y, y = l0_0[kk] := ⟨_, rfl⟩
   rw [← hyy] at hy CS0 hz
   clear hyy
   rw [← data_len] at hz
   rw [← sB_data y] at CS0
   replace CS0 := aM (swB HB.out CS0)
   have IX0 : Aside0 (0 ≤ (kk : Int) ∧ (kk : Int) < (l0_0.length : Int)) := ⟨by omega, hltz⟩
   have ew : wrap64 ((kk : Int) + 1) = ((kk + 1 : Nat) : Int) := by rw [wr64 (by omega) (by have := HN.out.n0; omega)]; omega
   have hTl : TT.length ≤ 100000000 := (by rw [HTT.out]; have q0 := sflat_le rL l0_0 kk HN.out.n0 (fun x hx => line_le (rL_le (HN.out.name x hx)) (by simp) (by decide)); omega)
   have HBd := aM HB.out
   go_upto_region 6 with fail
   clear hn0 hn1 hn2 hn3 hn4 hn5
   refine seq_tailM [some 22, some 23, some 24, some 25, some 26, some 27, some 28, some 29, some 3] 190 8 [VP.eq (.string (sB (TT))), VP.eq (.slice (some ad) l0_0.length c0_0), VP.eq (.int .i64 ((kk : Int))), VP.eq (.pointer (some (ad.add ((kk : Int)).toNat))), VP.eq (.string (sB (y.data.toList))), VP.eq (.string (sB ([114, 111, 117, 116, 101, 114, 32] ++ (y.data.toList)))), VP.eq (.string (sB (([114, 111, 117, 116, 101, 114, 32] ++ (y.data.toList)) ++ [10]))), VP.eq (.string (sB ((TT) ++ (([114, 111, 117, 116, 101, 114, 32] ++ (y.data.toList)) ++ [10]))))] rfl rfl (by kernel_rfl) rfl ⟨?_, ?_, ?_, ?_, ?_, ?_, ?_, ?_, trivial⟩ ?_
   · exact fun _ W _ hW _ hb hd _ hK _ => gn_ hK (x_move rfl (hb 3))
   · exact fun _ W _ hW _ hb hd _ hK _ => gn_ hK (x_move rfl (hb 4))
   · exact fun _ W _ hW _ hb hd _ hK _ => gn_ hK (x_move rfl (hb 5))
   · exact fun _ W _ hW _ hb hd _ hK _ => gn_ hK (x_ixs rfl (hd 1 23) (hd 2 24) IX0.out.1 IX0.out.2 HM.out)
   · exact fun _ W _ hW _ hb hd _ hK _ => gn_ hK (x_ld9 rfl (hd 3 25) ((hW.cell (World.block_lt_of_cell? _ _ CS0.out)).trans CS0.out))
   · exact fun _ W _ hW _ hb hd _ hK _ => gn_ hK (x_adds rfl rfl (hd 4 26) (sB_add ([114, 111, 117, 116, 101, 114, 32]) ((y.data.toList))) (by show (sB ([114, 111, 117, 116, 101, 114, 32])).size + (sB ((y.data.toList))).size ≤ 9223372036854775807; rw [sB_size, sB_size]; (try simp only [List.length_append, List.length_cons, List.length_nil]); omega))
   · exact fun _ W _ hW _ hb hd _ hK _ => gn_ hK (x_adds rfl (hd 5 27) rfl (sB_add (([114, 111, 117, 116, 101, 114, 32] ++ (y.data.toList))) ([10])) (by show (sB (([114, 111, 117, 116, 101, 114, 32] ++ (y.data.toList)))).size + (sB ([10])).size ≤ 9223372036854775807; rw [sB_size, sB_size]; (try simp only [List.length_append, List.length_cons, List.length_nil]); omega))
   · exact fun _ W _ hW _ hb hd _ hK _ => gn_ hK (x_adds rfl (hd 0 22) (hd 6 28) (sB_add ((TT)) ((([114, 111, 117, 116, 101, 114, 32] ++ (y.data.toList)) ++ [10]))) (by show (sB ((TT))).size + (sB ((([114, 111, 117, 116, 101, 114, 32] ++ (y.data.toList)) ++ [10]))).size ≤ 9223372036854775807; rw [sB_size, sB_size]; (try simp only [List.length_append, List.length_cons, List.length_nil]); omega))
   · intro vals F W B hF hW hBB hV
     have hf29 : vals 29 = .string (sB ((TT) ++ (([114, 111, 117, 116, 101, 114, 32] ++ (y.data.toList)) ++ [10]))) := hV 7 29 (of_decide_eq_true (by kernel_rfl)) rfl
     replace HB := aM (HBd.out.trans (hW.mono HBd.out.size))
     replace BN := aK BN hW
     rw [hF]
     clear hF hV hBB HBd
     simp only [cond_true, List.take, fillA, Act.put, List.setIfInBounds_toArray, List.set_cons_zero, List.set_cons_succ, hf29]
     clear hf29
     go_wp2
     go_roundg (l0_0.length - (kk + 1))
     case measure => exact sub_less hlt hg
     case rel => exact ⟨kk + 1, _, hlt, Nat.le_refl _, rfl, by first | rw [ew] | rfl, ⟨by rw [HTT.out, flat_snoc rL l0_0 kk _ hy, rL_eq]; simp only [List.append_assoc, List.cons_append, List.nil_append]⟩, BN, HB⟩
 · have hke : kk = l0_0.length := by omega
   subst hke
   replace HTT := aM (show TT = l0_0.flatMap rL by rw [HTT.out, List.take_of_length_le (Nat.le_refl _)])
   obtain ⟨wl0, hwl⟩ : ∃ x, x = wr := ⟨_, rfl⟩
   subst hwl
   go_wp2
   go_loopg [3, 6] l0_1.length (fun gg s3 s6 wr => ∃ (kk : Nat) (TT : List UInt8), kk ≤ l0_1.length ∧ l0_1.length - kk ≤ gg ∧ s3 = .string (sB TT) ∧ s6 = .int .i64 kk ∧ Aside0 (TT = (l0_0.flatMap rL ++ (l0_1.take kk).flatMap (lL l0_0))) ∧ Aside0 (wr.heap[gn]? = some (.cells #[.slice A0_0 l0_0.length c0_0, .slice A0_1 l0_1.length c0_1, .slice A0_2 l0_2.length c0_2, .slice A0_3 l0_3.length c0_3, .slice A0_4 l0_4.length c0_4, .slice A0_5 l0_5.length c0_5] 36 (0, 0))) ∧ Aside0 (Below w.heap.size w wr))
   case atStart => exact ⟨0, TT, Nat.zero_le _, by omega, rfl, rfl, ⟨by rw [List.take_zero, List.flatMap_nil, List.append_nil]; exact HTT.out⟩, BN, HB⟩
   clear BN HB hn0 hn1 hn2 hn3 hn4 hn5 HTT
   obtain ⟨kk, TT, hkk, hg, rfl, rfl, HTT, BN, HB⟩ := hrel
   obtain ⟨hn0, hn1, hn2, hn3, hn4, hn5⟩ := swc6 BN.out
   by_cases hlt : kk < l0_1.length
   · have hltz : (kk : Int) < (l0_1.length : Int) := by omega
     obtain ⟨ad1, ea1, e0, e1, e2⟩ := at_T92 HR0_1.out (kk : Int) (by omega) hltz
     cases ea1
     rw [Int.toNat_natCast] at e0 e1 e2
     have hy : l0_1[kk]? = some l0_1[kk] := List.getElem?_eq_getElem hlt
     have hrd : rd_T92 l0_1 (kk : Int) = l0_1[kk] := by unfold rd_T92; simp [List.getD, hlt]
     rw [hrd] at e0 e1 e2
     have hmem := List.getElem_mem hlt
     obtain ⟨y, hyy⟩ : ∃ y, y = l0_1[kk] := ⟨_, rfl⟩
     rw [← hyy] at hy e0 e1 e2 hmem
     clear hrd hyy
     replace e0 := swB HB.out e0
     replace e1 := swB HB.out e1
     replace e2 := swB HB.out e2
     have hl := HN.out.link _ hmem
     obtain ⟨ad, ea, CS0⟩ := Kd.at_string HR0_0.out y.f0 hl.1.1 hl.1.2
     cases ea
     obtain ⟨ad', ea', CS1⟩ := Kd.at_string HR0_0.out y.f1 hl.2.1.1 hl.2.1.2
     obtain rfl := Option.some.inj ea'
     rw [← sB_nm] at CS0 CS1
     have IX0 := aM hl.1
     have IX1 := aM hl.2.1
     have SM2 := aM hl.2.2
     have hi2 := itoa_le hl.2.2
     have hq0 := nm_le HN.out.name y.f0
     have hq1 := nm_le HN.out.name y.f1
     have ew : wrap64 ((kk : Int) + 1) = ((kk + 1 : Nat) : Int) := by rw [wr64 (by omega) (by have := HN.out.n1; omega)]; omega
     have hTl : TT.length ≤ 100000000 := (by rw [HTT.out]; have q0 := sflat_le rL l0_0 l0_0.length HN.out.n0 (fun x hx => line_le (rL_le (HN.out.name x hx)) (by simp) (by decide)); rw [List.take_of_length_le (Nat.le_refl _)] at q0; have q1 := sflat_le (lL l0_0) l0_1 kk HN.out.n1 (fun x hx => line_le (lL_le HN.out.name (HN.out.link x hx).2.2) (by simp) (by decide)); simp only [List.length_append]; omega)
     go_upto_region 11 with (first | ((with_reducible refine gate_dst (N := 7) rfl ?_); refine box_event rfl (N := 7) rfl (cs := #[.int .i64 0, .int .i64 0, .int .i64 0]) (t := 62) (by go_simp; done) ?_; intro g8 hg8 w8 hbox hbb; have HX := aM hbox; have HG8 := aM (Nat.le_of_eq hg8.symm : wr.heap.size ≤ g8); have HB8 := aM hbb; clear hbox hbb hg8) | ((with_reducible refine gate_store (t := 62) (p := 7) rfl ?_); obtain ⟨hc0, hc1, hc2⟩ := swc3 HX.out; have hf0 := blk_frozen HX.out 0; have hf1 := blk_frozen HX.out 1; have hf2 := blk_frozen HX.out 2; refine store_event (t := 62) (p := 7) (v := ?vo11) (w1 := (((w8.setCell ⟨g8, 0, none⟩ (.int .i64 y.f0)).setCell ⟨g8, 1, none⟩ (.int .i64 y.f1)).setCell ⟨g8, 2, none⟩ (.int .i64 y.f2))) ?hg11 ?ho11 ?hn11 ?hr11 ?_; (case ho11 => rfl); (case hg11 => rfl); (case hn11 => rfl); (case hr11 => (go_simp; done)); clear hc0 hf0 hc1 hf1 hc2 hf2; intro w9 hw_; obtain ⟨hbk, hkb, hkw⟩ := boxi3 (a0 := y.f0) (a1 := y.f1) (a2 := y.f2) HX.out; rw [← hw_] at hbk hkb hkw; clear hw_ hkb; have HB9 := aM (hkw wr HB8.out HG8.out); replace HX := aM hbk; replace BN := aK BN HB9.out; replace HB := aB HB HB9.out; clear hbk hkw))
     clear hn0 hn1 hn2 hn3 hn4 hn5
     obtain ⟨hn0, hn1, hn2, hn3, hn4, hn5⟩ := swc6 BN.out
     obtain ⟨cx0, cx1, cx2⟩ := swc3 HX.out
     have CX0 := aM cx0
     have CX1 := aM cx1
     have CX2 := aM cx2
     replace CS0 := aM (swB HB.out CS0)
     replace CS1 := aM (swB HB.out CS1)
     clear hn0 hn1 hn2 hn3 hn4 hn5 cx0 cx1 cx2
     have HBd : Aside0 (Below w.heap.size w w9.drew) := ⟨below_drew HB.out⟩
     refine any_tailM [some 42, some 43, some 44, some 45, some 46, some 47, some 48, some 49, some 50, some 51, some 52, some 53, some 54, some 55, some 56, some 57, some 58, some 59, some 60, some 61, some 62, some 3] 190 21 [0, 0, 0, 4, 14, 30, 62, 126, 0, 0, 512, 1792, 3840, 8190, 16382, 0, 32768, 98304, 262142, 524286, 1048575, 2097151] [VP.eq (.string (sB (TT))), VP.eq (.slice (some ad) l0_0.length c0_0), VP.eq (.pointer (some ⟨g8, 0, none⟩)), VP.eq (.int .i64 (y.f0)), VP.eq (.pointer (some (ad.add (y.f0).toNat))), VP.eq (.string (sB (nm l0_0 y.f0))), VP.eq (.string (sB ([108, 105, 110, 107, 32] ++ (nm l0_0 y.f0)))), VP.eq (.string (sB (([108, 105, 110, 107, 32] ++ (nm l0_0 y.f0)) ++ [32]))), VP.eq (.slice (some ad) l0_0.length c0_0), VP.eq (.pointer (some ⟨g8, 1, none⟩)), VP.eq (.int .i64 (y.f1)), VP.eq (.pointer (some (ad.add (y.f1).toNat))), VP.eq (.string (sB (nm l0_0 y.f1))), VP.eq (.string (sB ((([108, 105, 110, 107, 32] ++ (nm l0_0 y.f0)) ++ [32]) ++ (nm l0_0 y.f1)))), VP.eq (.string (sB (((([108, 105, 110, 107, 32] ++ (nm l0_0 y.f0)) ++ [32]) ++ (nm l0_0 y.f1)) ++ [32, 99, 111, 115, 116, 32]))), VP.eq (.pointer (some ⟨g8, 2, none⟩)), VP.eq (.int .i64 (y.f2)), VP.eq (.string (sB (Lib.itoa y.f2))), VP.eq (.string (sB ((((([108, 105, 110, 107, 32] ++ (nm l0_0 y.f0)) ++ [32]) ++ (nm l0_0 y.f1)) ++ [32, 99, 111, 115, 116, 32]) ++ (Lib.itoa y.f2)))), VP.eq (.string (sB (((((([108, 105, 110, 107, 32] ++ (nm l0_0 y.f0)) ++ [32]) ++ (nm l0_0 y.f1)) ++ [32, 99, 111, 115, 116, 32]) ++ (Lib.itoa y.f2)) ++ [10]))), VP.eq (.string (sB ((TT) ++ (((((([108, 105, 110, 107, 32] ++ (nm l0_0 y.f0)) ++ [32]) ++ (nm l0_0 y.f1)) ++ [32, 99, 111, 115, 116, 32]) ++ (Lib.itoa y.f2)) ++ [10]))))] rfl sx_r11_tab rfl rfl (by kernel_rfl) rfl ⟨?_, ?_, ?_, ?_, ?_, ?_, ?_, ?_, ?_, ?_, ?_, ?_, ?_, ?_, ?_, ?_, ?_, ?_, ?_, ?_, ?_, trivial⟩ ?_
     · exact fun _ W _ hW _ hb hd _ hK _ => gn_ hK (x_move rfl (hb 3))
     · exact fun _ W _ hW _ hb hd _ hK _ => gn_ hK (x_move rfl (hb 4))
     · exact fun _ W _ hW _ hb hd _ hK _ => gn_ hK (x_fa92 rfl (of_decide_eq_true (by kernel_rfl)) (hb 7))
     · exact fun _ W _ hW _ hb hd _ hK _ => gn_ hK (x_ld3 rfl (hd 2 44) ((hW.cell (World.block_lt_of_cell? _ _ CX0.out)).trans CX0.out))
     · exact fun _ W _ hW _ hb hd _ hK _ => gn_ hK (x_ixs rfl (hd 1 43) (hd 3 45) IX0.out.1 IX0.out.2 HM.out)
     · exact fun _ W _ hW _ hb hd _ hK _ => gn_ hK (x_ld9 rfl (hd 4 46) ((hW.cell (World.block_lt_of_cell? _ _ CS0.out)).trans CS0.out))
     · exact fun _ W _ hW _ hb hd _ hK _ => gn_ hK (x_adds rfl rfl (hd 5 47) (sB_add ([108, 105, 110, 107, 32]) ((nm l0_0 y.f0))) (by show (sB ([108, 105, 110, 107, 32])).size + (sB ((nm l0_0 y.f0))).size ≤ 9223372036854775807; rw [sB_size, sB_size]; (try simp only [List.length_append, List.length_cons, List.length_nil]); omega))
     · exact fun _ W _ hW _ hb hd _ hK _ => gn_ hK (x_adds rfl (hd 6 48) rfl (sB_add (([108, 105, 110, 107, 32] ++ (nm l0_0 y.f0))) ([32])) (by show (sB (([108, 105, 110, 107, 32] ++ (nm l0_0 y.f0)))).size + (sB ([32])).size ≤ 9223372036854775807; rw [sB_size, sB_size]; (try simp only [List.length_append, List.length_cons, List.length_nil]); omega))
     · exact fun _ W _ hW _ hb hd _ hK _ => gn_ hK (x_move rfl (hb 4))
     · exact fun _ W _ hW _ hb hd _ hK _ => gn_ hK (x_fa92 rfl (of_decide_eq_true (by kernel_rfl)) (hb 7))
     · exact fun _ W _ hW _ hb hd _ hK _ => gn_ hK (x_ld3 rfl (hd 9 51) ((hW.cell (World.block_lt_of_cell? _ _ CX1.out)).trans CX1.out))
     · exact fun _ W _ hW _ hb hd _ hK _ => gn_ hK (x_ixs rfl (hd 8 50) (hd 10 52) IX1.out.1 IX1.out.2 HM.out)
     · exact fun _ W _ hW _ hb hd _ hK _ => gn_ hK (x_ld9 rfl (hd 11 53) ((hW.cell (World.block_lt_of_cell? _ _ CS1.out)).trans CS1.out))
     · exact fun _ W _ hW _ hb hd _ hK _ => gn_ hK (x_adds rfl (hd 7 49) (hd 12 54) (sB_add ((([108, 105, 110, 107, 32] ++ (nm l0_0 y.f0)) ++ [32])) ((nm l0_0 y.f1))) (by show (sB ((([108, 105, 110, 107, 32] ++ (nm l0_0 y.f0)) ++ [32]))).size + (sB ((nm l0_0 y.f1))).size ≤ 9223372036854775807; rw [sB_size, sB_size]; (try simp only [List.length_append, List.length_cons, List.length_nil]); omega))
     · exact fun _ W _ hW _ hb hd _ hK _ => gn_ hK (x_adds rfl (hd 13 55) rfl (sB_add (((([108, 105, 110, 107, 32] ++ (nm l0_0 y.f0)) ++ [32]) ++ (nm l0_0 y.f1))) ([32, 99, 111, 115, 116, 32])) (by show (sB (((([108, 105, 110, 107, 32] ++ (nm l0_0 y.f0)) ++ [32]) ++ (nm l0_0 y.f1)))).size + (sB ([32, 99, 111, 115, 116, 32])).size ≤ 9223372036854775807; rw [sB_size, sB_size]; (try simp only [List.length_append, List.length_cons, List.length_nil]); omega))
     · exact fun _ W _ hW _ hb hd _ hK _ => gn_ hK (x_fa92 rfl (of_decide_eq_true (by kernel_rfl)) (hb 7))
     · exact fun _ W _ hW _ hb hd _ hK _ => gn_ hK (x_ld3 rfl (hd 15 57) ((hW.cell (World.block_lt_of_cell? _ _ CX2.out)).trans CX2.out))
     · intro bq W B hW hB hb hd K hK hK2; exact gc_step (C := true) wn_ (fun _ => ⟨x_call Tryd.func33 (by kernel_rfl) rfl rfl (args1 (hd 16 58)), (digits_calls _ W SM2.out).mono (fun e_ W_ h_ => ⟨h_.1, h_.2⟩)⟩) (fun W_ hb_ => hK _ W_ rfl hb_)
     · exact fun _ W _ hW _ hb hd _ hK _ => gn_ hK (x_adds rfl (hd 14 56) (hd 17 59) (sB_add ((((([108, 105, 110, 107, 32] ++ (nm l0_0 y.f0)) ++ [32]) ++ (nm l0_0 y.f1)) ++ [32, 99, 111, 115, 116, 32])) ((Lib.itoa y.f2))) (by show (sB ((((([108, 105, 110, 107, 32] ++ (nm l0_0 y.f0)) ++ [32]) ++ (nm l0_0 y.f1)) ++ [32, 99, 111, 115, 116, 32]))).size + (sB ((Lib.itoa y.f2))).size ≤ 9223372036854775807; rw [sB_size, sB_size]; (try simp only [List.length_append, List.length_cons, List.length_nil]); omega))
     · exact fun _ W _ hW _ hb hd _ hK _ => gn_ hK (x_adds rfl (hd 18 60) rfl (sB_add (((((([108, 105, 110, 107, 32] ++ (nm l0_0 y.f0)) ++ [32]) ++ (nm l0_0 y.f1)) ++ [32, 99, 111, 115, 116, 32]) ++ (Lib.itoa y.f2))) ([10])) (by show (sB (((((([108, 105, 110, 107, 32] ++ (nm l0_0 y.f0)) ++ [32]) ++ (nm l0_0 y.f1)) ++ [32, 99, 111, 115, 116, 32]) ++ (Lib.itoa y.f2)))).size + (sB ([10])).size ≤ 9223372036854775807; rw [sB_size, sB_size]; (try simp only [List.length_append, List.length_cons, List.length_nil]); omega))
     · exact fun _ W _ hW _ hb hd _ hK _ => gn_ hK (x_adds rfl (hd 0 42) (hd 19 61) (sB_add ((TT)) ((((((([108, 105, 110, 107, 32] ++ (nm l0_0 y.f0)) ++ [32]) ++ (nm l0_0 y.f1)) ++ [32, 99, 111, 115, 116, 32]) ++ (Lib.itoa y.f2)) ++ [10]))) (by show (sB ((TT))).size + (sB ((((((([108, 105, 110, 107, 32] ++ (nm l0_0 y.f0)) ++ [32]) ++ (nm l0_0 y.f1)) ++ [32, 99, 111, 115, 116, 32]) ++ (Lib.itoa y.f2)) ++ [10]))).size ≤ 9223372036854775807; rw [sB_size, sB_size]; (try simp only [List.length_append, List.length_cons, List.length_nil]); omega))
     · intro vals F W B hF hW hBB hV
       have hf62 : vals 62 = .string (sB ((TT) ++ (((((([108, 105, 110, 107, 32] ++ (nm l0_0 y.f0)) ++ [32]) ++ (nm l0_0 y.f1)) ++ [32, 99, 111, 115, 116, 32]) ++ (Lib.itoa y.f2)) ++ [10]))) := hV 20 62 (of_decide_eq_true (by kernel_rfl)) rfl
       replace HB := aM (HBd.out.trans (hW.mono HBd.out.size))
       replace BN := aK (aM (blk_drew BN.out)) hW
       rw [hF]
       clear hF hV hBB HBd
       simp only [cond_true, List.take, fillA, Act.put, List.setIfInBounds_toArray, List.set_cons_zero, List.set_cons_succ, hf62]
       clear hf62
       clear hW
       go_wp2
       go_roundg (l0_1.length - (kk + 1))
       case measure => exact sub_less hlt hg
       case rel => exact ⟨kk + 1, _, hlt, Nat.le_refl _, rfl, by first | rw [ew] | rfl, ⟨by rw [HTT.out, flat_snoc (lL l0_0) l0_1 kk _ hy, lL_eq]; simp only [List.append_assoc, List.cons_append, List.nil_append]⟩, BN, HB⟩
   · have hke : kk = l0_1.length := by omega
     subst hke
     replace HTT := aM (show TT = l0_0.flatMap rL ++ l0_1.flatMap (lL l0_0) by rw [HTT.out, List.take_of_length_le (Nat.le_refl _)])
     obtain ⟨wl1, hwl⟩ : ∃ x, x = wr := ⟨_, rfl⟩
     subst hwl
     go_wp2
     go_loopg [3, 8] l0_2.length (fun gg s3 s8 wr => ∃ (kk : Nat) (TT : List UInt8), kk ≤ l0_2.length ∧ l0_2.length - kk ≤ gg ∧ s3 = .string (sB TT) ∧ s8 = .int .i64 kk ∧ Aside0 (TT = (l0_0.flatMap rL ++ l0_1.flatMap (lL l0_0) ++ (l0_2.take kk).flatMap (oL l0_0))) ∧ Aside0 (wr.heap[gn]? = some (.cells #[.slice A0_0 l0_0.length c0_0, .slice A0_1 l0_1.length c0_1, .slice A0_2 l0_2.length c0_2, .slice A0_3 l0_3.length c0_3, .slice A0_4 l0_4.length c0_4, .slice A0_5 l0_5.length c0_5] 36 (0, 0))) ∧ Aside0 (Below w.heap.size w wr))
     case atStart => exact ⟨0, TT, Nat.zero_le _, by omega, rfl, rfl, ⟨by rw [List.take_zero, List.flatMap_nil, List.append_nil]; exact HTT.out⟩, BN, HB⟩
     clear BN HB hn0 hn1 hn2 hn3 hn4 hn5 HTT
     obtain ⟨kk, TT, hkk, hg, rfl, rfl, HTT, BN, HB⟩ := hrel
     obtain ⟨hn0, hn1, hn2, hn3, hn4, hn5⟩ := swc6 BN.out
     by_cases hlt : kk < l0_2.length
     · have hltz : (kk : Int) < (l0_2.length : Int) := by omega
       obtain ⟨ad1, ea1, hx⟩ := Kd.at_int HR0_2.out (kk : Int) (by omega) hltz
       cases ea1
       have hy : l0_2[kk]? = some l0_2[kk] := List.getElem?_eq_getElem hlt
       have hrd : rd l0_2 (kk : Int) = l0_2[kk] := by unfold rd; simp [List.getD, hlt]
       rw [hrd] at hx
       have hmem := List.getElem_mem hlt
       obtain ⟨y, hyy⟩ : ∃ y, y = l0_2[kk] := ⟨_, rfl⟩
       rw [← hyy] at hy hx hmem
       clear hrd hyy
       have CY := aM (swB HB.out hx)
       clear hx
       have hl := HN.out.orig _ hmem
       obtain ⟨ad, ea, CS0⟩ := Kd.at_string HR0_0.out y hl.1 hl.2
       cases ea
       rw [← sB_nm] at CS0
       replace CS0 := aM (swB HB.out CS0)
       have IX0 := aM hl
       have IXK : Aside0 (0 ≤ (kk : Int) ∧ (kk : Int) < (l0_2.length : Int)) := ⟨by omega, hltz⟩
       have HM1 : Aside0 (l0_2.length ≤ 9223372036854775807) := ⟨by have := HN.out.n2; omega⟩
       have hq0 := nm_le HN.out.name y
       have ew : wrap64 ((kk : Int) + 1) = ((kk + 1 : Nat) : Int) := by rw [wr64 (by omega) (by have := HN.out.n2; omega)]; omega
       have hTl : TT.length ≤ 100000000 := (by rw [HTT.out]; have q0 := sflat_le rL l0_0 l0_0.length HN.out.n0 (fun x hx => line_le (rL_le (HN.out.name x hx)) (by simp) (by decide)); rw [List.take_of_length_le (Nat.le_refl _)] at q0; have q1 := sflat_le (lL l0_0) l0_1 l0_1.length HN.out.n1 (fun x hx => line_le (lL_le HN.out.name (HN.out.link x hx).2.2) (by simp) (by decide)); rw [List.take_of_length_le (Nat.le_refl _)] at q1; have q2 := sflat_le (oL l0_0) l0_2 kk HN.out.n2 (fun x hx => line_le (oL_le HN.out.name x) (by simp) (by decide)); simp only [List.length_append]; omega)
       have HBd := aM HB.out
       go_upto_region 15 with fail
       obtain ⟨hn0, hn1, hn2, hn3, hn4, hn5⟩ := swc6 BN.out
       have CN := aM hn2
       clear hn0 hn1 hn2 hn3 hn4 hn5
       refine seq_tailM [some 70, some 71, some 72, some 73, some 74, some 75, some 76, some 77, some 78, some 79, some 80, some 81, some 3] 190 12 [VP.eq (.string (sB (TT))), VP.eq (.slice (some ad) l0_0.length c0_0), VP.eq (.pointer (some ⟨gn, 2, none⟩)), VP.eq (.slice (some ad1) l0_2.length c0_2), VP.eq (.int .i64 ((kk : Int))), VP.eq (.pointer (some (ad1.add ((kk : Int)).toNat))), VP.eq (.int .i64 (y)), VP.eq (.pointer (some (ad.add (y).toNat))), VP.eq (.string (sB (nm l0_0 y))), VP.eq (.string (sB ([111, 114, 105, 103, 105, 110, 32] ++ (nm l0_0 y)))), VP.eq (.string (sB (([111, 114, 105, 103, 105, 110, 32] ++ (nm l0_0 y)) ++ [10]))), VP.eq (.string (sB ((TT) ++ (([111, 114, 105, 103, 105, 110, 32] ++ (nm l0_0 y)) ++ [10]))))] rfl rfl (by kernel_rfl) rfl ⟨?_, ?_, ?_, ?_, ?_, ?_, ?_, ?_, ?_, ?_, ?_, ?_, trivial⟩ ?_
       · exact fun _ W _ hW _ hb hd _ hK _ => gn_ hK (x_move rfl (hb 3))
       · exact fun _ W _ hW _ hb hd _ hK _ => gn_ hK (x_move rfl (hb 4))
       · exact fun _ W _ hW _ hb hd _ hK _ => gn_ hK (x_fa38 rfl (of_decide_eq_true (by kernel_rfl)) (hb 1))
       · exact fun _ W _ hW _ hb hd _ hK _ => gn_ hK (x_ld24 rfl (hd 2 72) ((hW.cell (World.block_lt_of_cell? _ _ CN.out)).trans CN.out))
       · exact fun _ W _ hW _ hb hd _ hK _ => gn_ hK (x_move rfl (hb 8))
       · exact fun _ W _ hW _ hb hd _ hK _ => gn_ hK (x_ix24 rfl (hd 3 73) (hd 4 74) IXK.out.1 IXK.out.2 HM1.out)
       · exact fun _ W _ hW _ hb hd _ hK _ => gn_ hK (x_ld3 rfl (hd 5 75) ((hW.cell (World.block_lt_of_cell? _ _ CY.out)).trans CY.out))
       · exact fun _ W _ hW _ hb hd _ hK _ => gn_ hK (x_ixs rfl (hd 1 71) (hd 6 76) IX0.out.1 IX0.out.2 HM.out)
       · exact fun _ W _ hW _ hb hd _ hK _ => gn_ hK (x_ld9 rfl (hd 7 77) ((hW.cell (World.block_lt_of_cell? _ _ CS0.out)).trans CS0.out))
       · exact fun _ W _ hW _ hb hd _ hK _ => gn_ hK (x_adds rfl rfl (hd 8 78) (sB_add ([111, 114, 105, 103, 105, 110, 32]) ((nm l0_0 y))) (by show (sB ([111, 114, 105, 103, 105, 110, 32])).size + (sB ((nm l0_0 y))).size ≤ 9223372036854775807; rw [sB_size, sB_size]; (try simp only [List.length_append, List.length_cons, List.length_nil]); omega))
       · exact fun _ W _ hW _ hb hd _ hK _ => gn_ hK (x_adds rfl (hd 9 79) rfl (sB_add (([111, 114, 105, 103, 105, 110, 32] ++ (nm l0_0 y))) ([10])) (by show (sB (([111, 114, 105, 103, 105, 110, 32] ++ (nm l0_0 y)))).size + (sB ([10])).size ≤ 9223372036854775807; rw [sB_size, sB_size]; (try simp only [List.length_append, List.length_cons, List.length_nil]); omega))
       · exact fun _ W _ hW _ hb hd _ hK _ => gn_ hK (x_adds rfl (hd 0 70) (hd 10 80) (sB_add ((TT)) ((([111, 114, 105, 103, 105, 110, 32] ++ (nm l0_0 y)) ++ [10]))) (by show (sB ((TT))).size + (sB ((([111, 114, 105, 103, 105, 110, 32] ++ (nm l0_0 y)) ++ [10]))).size ≤ 9223372036854775807; rw [sB_size, sB_size]; (try simp only [List.length_append, List.length_cons, List.length_nil]); omega))
       · intro vals F W B hF hW hBB hV
         have hf81 : vals 81 = .string (sB ((TT) ++ (([111, 114, 105, 103, 105, 110, 32] ++ (nm l0_0 y)) ++ [10]))) := hV 11 81 (of_decide_eq_true (by kernel_rfl)) rfl
         replace HB := aM (HBd.out.trans (hW.mono HBd.out.size))
         replace BN := aK BN hW
         rw [hF]
         clear hF hV hBB HBd
         simp only [cond_true, List.take, fillA, Act.put, List.setIfInBounds_toArray, List.set_cons_zero, List.set_cons_succ, hf81]
         clear hf81
         go_wp2
         go_roundg (l0_2.length - (kk + 1))
         case measure => exact sub_less hlt hg
         case rel => exact ⟨kk + 1, _, hlt, Nat.le_refl _, rfl, by first | rw [ew] | rfl, ⟨by rw [HTT.out, flat_snoc (oL l0_0) l0_2 kk _ hy, oL_eq]; simp only [List.append_assoc, List.cons_append, List.nil_append]⟩, BN, HB⟩
     · have hke : kk = l0_2.length := by omega
       subst hke
       replace HTT := aM (show TT = l0_0.flatMap rL ++ l0_1.flatMap (lL l0_0) ++ l0_2.flatMap (oL l0_0) by rw [HTT.out, List.take_of_length_le (Nat.le_refl _)])
       obtain ⟨wl2, hwl⟩ : ∃ x, x = wr := ⟨_, rfl⟩
       subst hwl
       go_wp2
       go_loopg [3, 9] l0_3.length (fun gg s3 s9 wr => ∃ (kk : Nat) (TT : List UInt8), kk ≤ l0_3.length ∧ l0_3.length - kk ≤ gg ∧ s3 = .string (sB TT) ∧ s9 = .int .i64 kk ∧ Aside0 (TT = (l0_0.flatMap rL ++ l0_1.flatMap (lL l0_0) ++ l0_2.flatMap (oL l0_0) ++ (l0_3.take kk).flatMap (eL l0_0))) ∧ Aside0 (wr.heap[gn]? = some (.cells #[.slice A0_0 l0_0.length c0_0, .slice A0_1 l0_1.length c0_1, .slice A0_2 l0_2.length c0_2, .slice A0_3 l0_3.length c0_3, .slice A0_4 l0_4.length c0_4, .slice A0_5 l0_5.length c0_5] 36 (0, 0))) ∧ Aside0 (Below w.heap.size w wr))
       case atStart => exact ⟨0, TT, Nat.zero_le _, by omega, rfl, rfl, ⟨by rw [List.take_zero, List.flatMap_nil, List.append_nil]; exact HTT.out⟩, BN, HB⟩
       clear BN HB hn0 hn1 hn2 hn3 hn4 hn5 HTT
       obtain ⟨kk, TT, hkk, hg, rfl, rfl, HTT, BN, HB⟩ := hrel
       obtain ⟨hn0, hn1, hn2, hn3, hn4, hn5⟩ := swc6 BN.out
       by_cases hlt : kk < l0_3.length
       · have hltz : (kk : Int) < (l0_3.length : Int) := by omega
         obtain ⟨ad1, ea1, hx⟩ := Kd.at_int HR0_3.out (kk : Int) (by omega) hltz
         cases ea1
         have hy : l0_3[kk]? = some l0_3[kk] := List.getElem?_eq_getElem hlt
         have hrd : rd l0_3 (kk : Int) = l0_3[kk] := by unfold rd; simp [List.getD, hlt]
         rw [hrd] at hx
         have hmem := List.getElem_mem hlt
         obtain ⟨y, hyy⟩ : ∃ y, y = l0_3[kk] := ⟨_, rfl⟩
         rw [← hyy] at hy hx hmem
         clear hrd hyy
         have CY := aM (swB HB.out hx)
         clear hx
         have hl := HN.out.ext _ hmem
         obtain ⟨ad, ea, CS0⟩ := Kd.at_string HR0_0.out y hl.1 hl.2
         cases ea
         rw [← sB_nm] at CS0
         replace CS0 := aM (swB HB.out CS0)
         have IX0 := aM hl
         have IXK : Aside0 (0 ≤ (kk : Int) ∧ (kk : Int) < (l0_3.length : Int)) := ⟨by omega, hltz⟩
         have HM1 : Aside0 (l0_3.length ≤ 9223372036854775807) := ⟨by have := HN.out.n3; omega⟩
         have hq0 := nm_le HN.out.name y
         have ew : wrap64 ((kk : Int) + 1) = ((kk + 1 : Nat) : Int) := by rw [wr64 (by omega) (by have := HN.out.n3; omega)]; omega
         have hTl : TT.length ≤ 100000000 := (by rw [HTT.out]; have q0 := sflat_le rL l0_0 l0_0.length HN.out.n0 (fun x hx => line_le (rL_le (HN.out.name x hx)) (by simp) (by decide)); rw [List.take_of_length_le (Nat.le_refl _)] at q0; have q1 := sflat_le (lL l0_0) l0_1 l0_1.length HN.out.n1 (fun x hx => line_le (lL_le HN.out.name (HN.out.link x hx).2.2) (by simp) (by decide)); rw [List.take_of_length_le (Nat.le_refl _)] at q1; have q2 := sflat_le (oL l0_0) l0_2 l0_2.length HN.out.n2 (fun x hx => line_le (oL_le HN.out.name x) (by simp) (by decide)); rw [List.take_of_length_le (Nat.le_refl _)] at q2; have q3 := sflat_le (eL l0_0) l0_3 kk HN.out.n3 (fun x hx => line_le (eL_le HN.out.name x) (by simp) (by decide)); simp only [List.length_append]; omega)
         have HBd := aM HB.out
         go_upto_region 19 with fail
         obtain ⟨hn0, hn1, hn2, hn3, hn4, hn5⟩ := swc6 BN.out
         have CN := aM hn3
         clear hn0 hn1 hn2 hn3 hn4 hn5
         refine seq_tailM [some 89, some 90, some 91, some 92, some 93, some 94, some 95, some 96, some 97, some 98, some 99, some 100, some 3] 190 12 [VP.eq (.string (sB (TT))), VP.eq (.slice (some ad) l0_0.length c0_0), VP.eq (.pointer (some ⟨gn, 3, none⟩)), VP.eq (.slice (some ad1) l0_3.length c0_3), VP.eq (.int .i64 ((kk : Int))), VP.eq (.pointer (some (ad1.add ((kk : Int)).toNat))), VP.eq (.int .i64 (y)), VP.eq (.pointer (some (ad.add (y).toNat))), VP.eq (.string (sB (nm l0_0 y))), VP.eq (.string (sB ([101, 120, 116, 101, 114, 110, 97, 108, 32] ++ (nm l0_0 y)))), VP.eq (.string (sB (([101, 120, 116, 101, 114, 110, 97, 108, 32] ++ (nm l0_0 y)) ++ [10]))), VP.eq (.string (sB ((TT) ++ (([101, 120, 116, 101, 114, 110, 97, 108, 32] ++ (nm l0_0 y)) ++ [10]))))] rfl rfl (by kernel_rfl) rfl ⟨?_, ?_, ?_, ?_, ?_, ?_, ?_, ?_, ?_, ?_, ?_, ?_, trivial⟩ ?_
         · exact fun _ W _ hW _ hb hd _ hK _ => gn_ hK (x_move rfl (hb 3))
         · exact fun _ W _ hW _ hb hd _ hK _ => gn_ hK (x_move rfl (hb 4))
         · exact fun _ W _ hW _ hb hd _ hK _ => gn_ hK (x_fa38 rfl (of_decide_eq_true (by kernel_rfl)) (hb 1))
         · exact fun _ W _ hW _ hb hd _ hK _ => gn_ hK (x_ld24 rfl (hd 2 91) ((hW.cell (World.block_lt_of_cell? _ _ CN.out)).trans CN.out))
         · exact fun _ W _ hW _ hb hd _ hK _ => gn_ hK (x_move rfl (hb 9))
         · exact fun _ W _ hW _ hb hd _ hK _ => gn_ hK (x_ix24 rfl (hd 3 92) (hd 4 93) IXK.out.1 IXK.out.2 HM1.out)
         · exact fun _ W _ hW _ hb hd _ hK _ => gn_ hK (x_ld3 rfl (hd 5 94) ((hW.cell (World.block_lt_of_cell? _ _ CY.out)).trans CY.out))
         · exact fun _ W _ hW _ hb hd _ hK _ => gn_ hK (x_ixs rfl (hd 1 90) (hd 6 95) IX0.out.1 IX0.out.2 HM.out)
         · exact fun _ W _ hW _ hb hd _ hK _ => gn_ hK (x_ld9 rfl (hd 7 96) ((hW.cell (World.block_lt_of_cell? _ _ CS0.out)).trans CS0.out))
         · exact fun _ W _ hW _ hb hd _ hK _ => gn_ hK (x_adds rfl rfl (hd 8 97) (sB_add ([101, 120, 116, 101, 114, 110, 97, 108, 32]) ((nm l0_0 y))) (by show (sB ([101, 120, 116, 101, 114, 110, 97, 108, 32])).size + (sB ((nm l0_0 y))).size ≤ 9223372036854775807; rw [sB_size, sB_size]; (try simp only [List.length_append, List.length_cons, List.length_nil]); omega))
         · exact fun _ W _ hW _ hb hd _ hK _ => gn_ hK (x_adds rfl (hd 9 98) rfl (sB_add (([101, 120, 116, 101, 114, 110, 97, 108, 32] ++ (nm l0_0 y))) ([10])) (by show (sB (([101, 120, 116, 101, 114, 110, 97, 108, 32] ++ (nm l0_0 y)))).size + (sB ([10])).size ≤ 9223372036854775807; rw [sB_size, sB_size]; (try simp only [List.length_append, List.length_cons, List.length_nil]); omega))
         · exact fun _ W _ hW _ hb hd _ hK _ => gn_ hK (x_adds rfl (hd 0 89) (hd 10 99) (sB_add ((TT)) ((([101, 120, 116, 101, 114, 110, 97, 108, 32] ++ (nm l0_0 y)) ++ [10]))) (by show (sB ((TT))).size + (sB ((([101, 120, 116, 101, 114, 110, 97, 108, 32] ++ (nm l0_0 y)) ++ [10]))).size ≤ 9223372036854775807; rw [sB_size, sB_size]; (try simp only [List.length_append, List.length_cons, List.length_nil]); omega))
         · intro vals F W B hF hW hBB hV
           have hf100 : vals 100 = .string (sB ((TT) ++ (([101, 120, 116, 101, 114, 110, 97, 108, 32] ++ (nm l0_0 y)) ++ [10]))) := hV 11 100 (of_decide_eq_true (by kernel_rfl)) rfl
           replace HB := aM (HBd.out.trans (hW.mono HBd.out.size))
           replace BN := aK BN hW
           rw [hF]
           clear hF hV hBB HBd
           simp only [cond_true, List.take, fillA, Act.put, List.setIfInBounds_toArray, List.set_cons_zero, List.set_cons_succ, hf100]
           clear hf100
           go_wp2
           go_roundg (l0_3.length - (kk + 1))
           case measure => exact sub_less hlt hg
           case rel => exact ⟨kk + 1, _, hlt, Nat.le_refl _, rfl, by first | rw [ew] | rfl, ⟨by rw [HTT.out, flat_snoc (eL l0_0) l0_3 kk _ hy, eL_eq]; simp only [List.append_assoc, List.cons_append, List.nil_append]⟩, BN, HB⟩
       · have hke : kk = l0_3.length := by omega
         subst hke
         replace HTT := aM (show TT = l0_0.flatMap rL ++ l0_1.flatMap (lL l0_0) ++ l0_2.flatMap (oL l0_0) ++ l0_3.flatMap (eL l0_0) by rw [HTT.out, List.take_of_length_le (Nat.le_refl _)])
         obtain ⟨wl3, hwl⟩ : ∃ x, x = wr := ⟨_, rfl⟩
         subst hwl
         go_wp2
         go_loopg [3, 10] l0_4.length (fun gg s3 s10 wr => ∃ (kk : Nat) (TT : List UInt8), kk ≤ l0_4.length ∧ l0_4.length - kk ≤ gg ∧ s3 = .string (sB TT) ∧ s10 = .int .i64 kk ∧ Aside0 (TT = (l0_0.flatMap rL ++ l0_1.flatMap (lL l0_0) ++ l0_2.flatMap (oL l0_0) ++ l0_3.flatMap (eL l0_0) ++ (l0_4.take kk).flatMap (iL l0_0))) ∧ Aside0 (wr.heap[gn]? = some (.cells #[.slice A0_0 l0_0.length c0_0, .slice A0_1 l0_1.length c0_1, .slice A0_2 l0_2.length c0_2, .slice A0_3 l0_3.length c0_3, .slice A0_4 l0_4.length c0_4, .slice A0_5 l0_5.length c0_5] 36 (0, 0))) ∧ Aside0 (Below w.heap.size w wr))
         case atStart => exact ⟨0, TT, Nat.zero_le _, by omega, rfl, rfl, ⟨by rw [List.take_zero, List.flatMap_nil, List.append_nil]; exact HTT.out⟩, BN, HB⟩
         clear BN HB hn0 hn1 hn2 hn3 hn4 hn5 HTT
         obtain ⟨kk, TT, hkk, hg, rfl, rfl, HTT, BN, HB⟩ := hrel
         obtain ⟨hn0, hn1, hn2, hn3, hn4, hn5⟩ := swc6 BN.out
         by_cases hlt : kk < l0_4.length
         · have hltz : (kk : Int) < (l0_4.length : Int) := by omega
           obtain ⟨ad1, ea1, e0, e1, e2, e3, e4⟩ := at_T95 HR0_4.out (kk : Int) (by omega) hltz
           cases ea1
           rw [Int.toNat_natCast] at e0 e1 e2 e3 e4
           have hy : l0_4[kk]? = some l0_4[kk] := List.getElem?_eq_getElem hlt
           have hrd : rd_T95 l0_4 (kk : Int) = l0_4[kk] := by unfold rd_T95; simp [List.getD, hlt]
           rw [hrd] at e0 e1 e2 e3 e4
           have hmem := List.getElem_mem hlt
           obtain ⟨y, hyy⟩ : ∃ y, y = l0_4[kk] := ⟨_, rfl⟩
           rw [← hyy] at hy e0 e1 e2 e3 e4 hmem
           clear hrd hyy
           replace e0 := swB HB.out e0
           replace e1 := swB HB.out e1
           replace e2 := swB HB.out e2
           replace e3 := swB HB.out e3
           replace e4 := swB HB.out e4
           have hl := HN.out.imp _ hmem
           obtain ⟨ad, ea, CS0⟩ := Kd.at_string HR0_0.out y.f0 hl.1.1 hl.1.2
           cases ea
           obtain ⟨ad', ea', CS1⟩ := Kd.at_string HR0_0.out y.f1 hl.2.1.1 hl.2.1.2
           obtain rfl := Option.some.inj ea'
           rw [← sB_nm] at CS0 CS1
           have IX0 := aM hl.1
           have IX1 := aM hl.2.1
           have SM4 := aM hl.2.2.2.2
           have IW := aM hl.2.2.1
           have IDo := aM hl.2.2.2.1
           have ID : Aside0 (0 ≤ y.f3 ∧ y.f3 < ((5 : Nat) : Int)) := ⟨by have := hl.2.2.2.1.1; omega, by have := hl.2.2.2.1.2; omega⟩
           have hi2 := itoa_le hl.2.2.2.2
           have hq2 := when_le y.f2
           have hq3 := doW_le y.f3
           have hq0 := nm_le HN.out.name y.f0
           have hq1 := nm_le HN.out.name y.f1
           have ew : wrap64 ((kk : Int) + 1) = ((kk + 1 : Nat) : Int) := by rw [wr64 (by omega) (by have := HN.out.n4; omega)]; omega
           have hTl : TT.length ≤ 100000000 := (by rw [HTT.out]; have q0 := sflat_le rL l0_0 l0_0.length HN.out.n0 (fun x hx => line_le (rL_le (HN.out.name x hx)) (by simp) (by decide)); rw [List.take_of_length_le (Nat.le_refl _)] at q0; have q1 := sflat_le (lL l0_0) l0_1 l0_1.length HN.out.n1 (fun x hx => line_le (lL_le HN.out.name (HN.out.link x hx).2.2) (by simp) (by decide)); rw [List.take_of_length_le (Nat.le_refl _)] at q1; have q2 := sflat_le (oL l0_0) l0_2 l0_2.length HN.out.n2 (fun x hx => line_le (oL_le HN.out.name x) (by simp) (by decide)); rw [List.take_of_length_le (Nat.le_refl _)] at q2; have q3 := sflat_le (eL l0_0) l0_3 l0_3.length HN.out.n3 (fun x hx => line_le (eL_le HN.out.name x) (by simp) (by decide)); rw [List.take_of_length_le (Nat.le_refl _)] at q3; have q4 := sflat_le (iL l0_0) l0_4 kk HN.out.n4 (fun x hx => line_le (iL_le HN.out.name (HN.out.imp x hx).2.2.2.2) (by simp) (by decide)); simp only [List.length_append]; omega)
           go_upto_region 24 with (first | ((with_reducible refine gate_dst (N := 11) rfl ?_); refine box_event rfl (N := 11) rfl (cs := #[.int .i64 0, .int .i64 0, .int .i64 0, .int .i64 0, .int .i64 0]) (t := 65) (by go_simp; done) ?_; intro g8 hg8 w8 hbox hbb; have HX := aM hbox; have HG8 := aM (Nat.le_of_eq hg8.symm : wr.heap.size ≤ g8); have HB8 := aM hbb; clear hbox hbb hg8) | ((with_reducible refine gate_store (t := 65) (p := 11) rfl ?_); obtain ⟨hc0, hc1, hc2, hc3, hc4⟩ := swc5 HX.out; have hf0 := blk_frozen HX.out 0; have hf1 := blk_frozen HX.out 1; have hf2 := blk_frozen HX.out 2; have hf3 := blk_frozen HX.out 3; have hf4 := blk_frozen HX.out 4; refine store_event (t := 65) (p := 11) (v := ?vo24) (w1 := (((((w8.setCell ⟨g8, 0, none⟩ (.int .i64 y.f0)).setCell ⟨g8, 1, none⟩ (.int .i64 y.f1)).setCell ⟨g8, 2, none⟩ (.int .i64 y.f2)).setCell ⟨g8, 3, none⟩ (.int .i64 y.f3)).setCell ⟨g8, 4, none⟩ (.int .i64 y.f4))) ?hg24 ?ho24 ?hn24 ?hr24 ?_; (case ho24 => rfl); (case hg24 => rfl); (case hn24 => rfl); (case hr24 => (go_simp; done)); clear hc0 hf0 hc1 hf1 hc2 hf2 hc3 hf3 hc4 hf4; intro w9 hw_; obtain ⟨hbk, hkb, hkw⟩ := boxi5 (a0 := y.f0) (a1 := y.f1) (a2 := y.f2) (a3 := y.f3) (a4 := y.f4) HX.out; rw [← hw_] at hbk hkb hkw; clear hw_ hkb; have HB9 := aM (hkw wr HB8.out HG8.out); replace HX := aM hbk; replace BN := aK BN HB9.out; replace HB := aB HB HB9.out; clear hbk hkw))
           clear hn0 hn1 hn2 hn3 hn4 hn5
           obtain ⟨hn0, hn1, hn2, hn3, hn4, hn5⟩ := swc6 BN.out
           obtain ⟨cx0, cx1, cx2, cx3, cx4⟩ := swc5 HX.out
           have CX0 := aM cx0
           have CX1 := aM cx1
           have CX2 := aM cx2
           have CX3 := aM cx3
           have CX4 := aM cx4
           replace CS0 := aM (swB HB.out CS0)
           replace CS1 := aM (swB HB.out CS1)
           clear hn0 hn1 hn2 hn3 hn4 hn5 cx0 cx1 cx2 cx3 cx4
           have HBd : Aside0 (Below w.heap.size w w9.drew) := ⟨below_drew HB.out⟩
           refine any_tailM [some 113, some 114, some 115, some 116, some 117, some 118, some 119, some 120, some 121, some 122, some 123, some 124, some 125, some 126, some 127, some 128, some 129, some 130, some 131, some 132, some 133, some 134, some 135, some 136, some 137, some 138, some 139, some 3] 190 27 [0, 0, 0, 4, 14, 30, 62, 126, 0, 0, 512, 1792, 3840, 8190, 0, 0, 32768, 114688, 245760, 524286, 0, 0, 2097152, 7340032, 15728640, 33554430, 67108863, 134217727] [VP.eq (.string (sB (TT))), VP.eq (.slice (some ad) l0_0.length c0_0), VP.eq (.pointer (some ⟨g8, 0, none⟩)), VP.eq (.int .i64 (y.f0)), VP.eq (.pointer (some (ad.add (y.f0).toNat))), VP.eq (.string (sB (nm l0_0 y.f0))), VP.eq (.string (sB ([105, 109, 112, 111, 114, 116, 32] ++ (nm l0_0 y.f0)))), VP.eq (.string (sB (([105, 109, 112, 111, 114, 116, 32] ++ (nm l0_0 y.f0)) ++ [32, 102, 114, 111, 109, 32]))), VP.eq (.slice (some ad) l0_0.length c0_0), VP.eq (.pointer (some ⟨g8, 1, none⟩)), VP.eq (.int .i64 (y.f1)), VP.eq (.pointer (some (ad.add (y.f1).toNat))), VP.eq (.string (sB (nm l0_0 y.f1))), VP.eq (.string (sB ((([105, 109, 112, 111, 114, 116, 32] ++ (nm l0_0 y.f0)) ++ [32, 102, 114, 111, 109, 32]) ++ (nm l0_0 y.f1)))), VP.lit w9.drew.heap.size 3 #[.string ⟨#[]⟩, .string ⟨#[32, 105, 102, 32, 109, 97, 114, 107]⟩, .string ⟨#[32, 105, 102, 32, 112, 108, 97, 105, 110]⟩], VP.eq (.pointer (some ⟨g8, 2, none⟩)), VP.eq (.int .i64 (y.f2)), VP.lic #[.string ⟨#[]⟩, .string ⟨#[32, 105, 102, 32, 109, 97, 114, 107]⟩, .string ⟨#[32, 105, 102, 32, 112, 108, 97, 105, 110]⟩] (y.f2).toNat, VP.eq (.string (sB (whenT y.f2))), VP.eq (.string (sB (((([105, 109, 112, 111, 114, 116, 32] ++ (nm l0_0 y.f0)) ++ [32, 102, 114, 111, 109, 32]) ++ (nm l0_0 y.f1)) ++ (whenT y.f2)))), VP.lit w9.drew.heap.size 5 #[.string ⟨#[]⟩, .string ⟨#[32, 100, 101, 110, 121]⟩, .string ⟨#[32, 112, 114, 101, 102]⟩, .string ⟨#[32, 109, 97, 114, 107]⟩, .string ⟨#[32, 99, 108, 101, 97, 114]⟩], VP.eq (.pointer (some ⟨g8, 3, none⟩)), VP.eq (.int .i64 (y.f3)), VP.lic #[.string ⟨#[]⟩, .string ⟨#[32, 100, 101, 110, 121]⟩, .string ⟨#[32, 112, 114, 101, 102]⟩, .string ⟨#[32, 109, 97, 114, 107]⟩, .string ⟨#[32, 99, 108, 101, 97, 114]⟩] (y.f3).toNat, VP.eq (.string (sB (doW y.f3))), VP.eq (.string (sB ((((([105, 109, 112, 111, 114, 116, 32] ++ (nm l0_0 y.f0)) ++ [32, 102, 114, 111, 109, 32]) ++ (nm l0_0 y.f1)) ++ (whenT y.f2)) ++ (doW y.f3)))), VP.eq (.string (sB ((TT) ++ ((((([105, 109, 112, 111, 114, 116, 32] ++ (nm l0_0 y.f0)) ++ [32, 102, 114, 111, 109, 32]) ++ (nm l0_0 y.f1)) ++ (whenT y.f2)) ++ (doW y.f3)))))] rfl sx_r24_tab rfl rfl (by kernel_rfl) rfl ⟨?_, ?_, ?_, ?_, ?_, ?_, ?_, ?_, ?_, ?_, ?_, ?_, ?_, ?_, ?_, ?_, ?_, ?_, ?_, ?_, ?_, ?_, ?_, ?_, ?_, ?_, ?_, trivial⟩ ?_
           · exact fun _ W _ hW _ hb hd _ hK _ => gn_ hK (x_move rfl (hb 3))
           · exact fun _ W _ hW _ hb hd _ hK _ => gn_ hK (x_move rfl (hb 4))
           · exact fun _ W _ hW _ hb hd _ hK _ => gn_ hK (x_fa95 rfl (of_decide_eq_true (by kernel_rfl)) (hb 11))
           · exact fun _ W _ hW _ hb hd _ hK _ => gn_ hK (x_ld3 rfl (hd 2 115) ((hW.cell (World.block_lt_of_cell? _ _ CX0.out)).trans CX0.out))
           · exact fun _ W _ hW _ hb hd _ hK _ => gn_ hK (x_ixs rfl (hd 1 114) (hd 3 116) IX0.out.1 IX0.out.2 HM.out)
           · exact fun _ W _ hW _ hb hd _ hK _ => gn_ hK (x_ld9 rfl (hd 4 117) ((hW.cell (World.block_lt_of_cell? _ _ CS0.out)).trans CS0.out))
           · exact fun _ W _ hW _ hb hd _ hK _ => gn_ hK (x_adds rfl rfl (hd 5 118) (sB_add ([105, 109, 112, 111, 114, 116, 32]) ((nm l0_0 y.f0))) (by show (sB ([105, 109, 112, 111, 114, 116, 32])).size + (sB ((nm l0_0 y.f0))).size ≤ 9223372036854775807; rw [sB_size, sB_size]; (try simp only [List.length_append, List.length_cons, List.length_nil]); omega))
           · exact fun _ W _ hW _ hb hd _ hK _ => gn_ hK (x_adds rfl (hd 6 119) rfl (sB_add (([105, 109, 112, 111, 114, 116, 32] ++ (nm l0_0 y.f0))) ([32, 102, 114, 111, 109, 32])) (by show (sB (([105, 109, 112, 111, 114, 116, 32] ++ (nm l0_0 y.f0)))).size + (sB ([32, 102, 114, 111, 109, 32])).size ≤ 9223372036854775807; rw [sB_size, sB_size]; (try simp only [List.length_append, List.length_cons, List.length_nil]); omega))
           · exact fun _ W _ hW _ hb hd _ hK _ => gn_ hK (x_move rfl (hb 4))
           · exact fun _ W _ hW _ hb hd _ hK _ => gn_ hK (x_fa95 rfl (of_decide_eq_true (by kernel_rfl)) (hb 11))
           · exact fun _ W _ hW _ hb hd _ hK _ => gn_ hK (x_ld3 rfl (hd 9 122) ((hW.cell (World.block_lt_of_cell? _ _ CX1.out)).trans CX1.out))
           · exact fun _ W _ hW _ hb hd _ hK _ => gn_ hK (x_ixs rfl (hd 8 121) (hd 10 123) IX1.out.1 IX1.out.2 HM.out)
           · exact fun _ W _ hW _ hb hd _ hK _ => gn_ hK (x_ld9 rfl (hd 11 124) ((hW.cell (World.block_lt_of_cell? _ _ CS1.out)).trans CS1.out))
           · exact fun _ W _ hW _ hb hd _ hK _ => gn_ hK (x_adds rfl (hd 7 120) (hd 12 125) (sB_add ((([105, 109, 112, 111, 114, 116, 32] ++ (nm l0_0 y.f0)) ++ [32, 102, 114, 111, 109, 32])) ((nm l0_0 y.f1))) (by show (sB ((([105, 109, 112, 111, 114, 116, 32] ++ (nm l0_0 y.f0)) ++ [32, 102, 114, 111, 109, 32]))).size + (sB ((nm l0_0 y.f1))).size ≤ 9223372036854775807; rw [sB_size, sB_size]; (try simp only [List.length_append, List.length_cons, List.length_nil]); omega))
           · intro b W B hW hB hb hd K hK hK2; exact lit_step rfl hW.size (by unfold execOp; go_simp; done) hK2
           · exact fun _ W _ hW _ hb hd _ hK _ => gn_ hK (x_fa95 rfl (of_decide_eq_true (by kernel_rfl)) (hb 11))
           · exact fun _ W _ hW _ hb hd _ hK _ => gn_ hK (x_ld3 rfl (hd 15 128) ((hW.cell (World.block_lt_of_cell? _ _ CX2.out)).trans CX2.out))
           · intro bq W B hW hB hb hd K hK hK2; obtain ⟨g_, hv_, _, _, hg_⟩ := hd 14 127; exact gv_ (hK) (x_ixs rfl hv_ (hd 16 129) IW.out.1 IW.out.2 (by decide)) ⟨g_, rfl, hg_⟩
           · intro bq W B hW hB hb hd K hK hK2; obtain ⟨g_, hv_, hg_⟩ := hd 17 130; exact gv_ (hK) (x_ld9 rfl hv_ (lit_cell hg_ (when_lit _ IW.out.1 IW.out.2))) rfl
           · exact fun _ W _ hW _ hb hd _ hK _ => gn_ hK (x_adds rfl (hd 13 126) (hd 18 131) (sB_add (((([105, 109, 112, 111, 114, 116, 32] ++ (nm l0_0 y.f0)) ++ [32, 102, 114, 111, 109, 32]) ++ (nm l0_0 y.f1))) ((whenT y.f2))) (by show (sB (((([105, 109, 112, 111, 114, 116, 32] ++ (nm l0_0 y.f0)) ++ [32, 102, 114, 111, 109, 32]) ++ (nm l0_0 y.f1)))).size + (sB ((whenT y.f2))).size ≤ 9223372036854775807; rw [sB_size, sB_size]; (try simp only [List.length_append, List.length_cons, List.length_nil]); omega))
           · intro b W B hW hB hb hd K hK hK2; exact lit_step rfl hW.size (by unfold execOp; go_simp; done) hK2
           · exact fun _ W _ hW _ hb hd _ hK _ => gn_ hK (x_fa95 rfl (of_decide_eq_true (by kernel_rfl)) (hb 11))
           · exact fun _ W _ hW _ hb hd _ hK _ => gn_ hK (x_ld3 rfl (hd 21 134) ((hW.cell (World.block_lt_of_cell? _ _ CX3.out)).trans CX3.out))
           · intro bq W B hW hB hb hd K hK hK2; obtain ⟨g_, hv_, _, _, hg_⟩ := hd 20 133; exact gv_ (hK) (x_ixs rfl hv_ (hd 22 135) ID.out.1 ID.out.2 (by decide)) ⟨g_, rfl, hg_⟩
           · intro bq W B hW hB hb hd K hK hK2; obtain ⟨g_, hv_, hg_⟩ := hd 23 136; exact gv_ (hK) (x_ld9 rfl hv_ (lit_cell hg_ (do_lit _ IDo.out.1 IDo.out.2))) rfl
           · exact fun _ W _ hW _ hb hd _ hK _ => gn_ hK (x_adds rfl (hd 19 132) (hd 24 137) (sB_add ((((([105, 109, 112, 111, 114, 116, 32] ++ (nm l0_0 y.f0)) ++ [32, 102, 114, 111, 109, 32]) ++ (nm l0_0 y.f1)) ++ (whenT y.f2))) ((doW y.f3))) (by show (sB ((((([105, 109, 112, 111, 114, 116, 32] ++ (nm l0_0 y.f0)) ++ [32, 102, 114, 111, 109, 32]) ++ (nm l0_0 y.f1)) ++ (whenT y.f2)))).size + (sB ((doW y.f3))).size ≤ 9223372036854775807; rw [sB_size, sB_size]; (try simp only [List.length_append, List.length_cons, List.length_nil]); omega))
           · exact fun _ W _ hW _ hb hd _ hK _ => gn_ hK (x_adds rfl (hd 0 113) (hd 25 138) (sB_add ((TT)) (((((([105, 109, 112, 111, 114, 116, 32] ++ (nm l0_0 y.f0)) ++ [32, 102, 114, 111, 109, 32]) ++ (nm l0_0 y.f1)) ++ (whenT y.f2)) ++ (doW y.f3)))) (by show (sB ((TT))).size + (sB (((((([105, 109, 112, 111, 114, 116, 32] ++ (nm l0_0 y.f0)) ++ [32, 102, 114, 111, 109, 32]) ++ (nm l0_0 y.f1)) ++ (whenT y.f2)) ++ (doW y.f3)))).size ≤ 9223372036854775807; rw [sB_size, sB_size]; (try simp only [List.length_append, List.length_cons, List.length_nil]); omega))
           · intro vals F W B hF hW hBB hV
             have hf139 : vals 139 = .string (sB ((TT) ++ ((((([105, 109, 112, 111, 114, 116, 32] ++ (nm l0_0 y.f0)) ++ [32, 102, 114, 111, 109, 32]) ++ (nm l0_0 y.f1)) ++ (whenT y.f2)) ++ (doW y.f3)))) := hV 26 139 (of_decide_eq_true (by kernel_rfl)) rfl
             replace HB := aM (HBd.out.trans (hW.mono HBd.out.size))
             replace BN := aK (aM (blk_drew BN.out)) hW
             rw [hF]
             clear hF hV hBB HBd
             simp only [cond_true, List.take, fillA, Act.put, List.setIfInBounds_toArray, List.set_cons_zero, List.set_cons_succ, hf139]
             clear hf139
             obtain ⟨TQ, hTQ⟩ : ∃ x, x = (((TT) ++ ((((([105, 109, 112, 111, 114, 116, 32] ++ (nm l0_0 y.f0)) ++ [32, 102, 114, 111, 109, 32]) ++ (nm l0_0 y.f1)) ++ (whenT y.f2)) ++ (doW y.f3)))) := ⟨_, rfl⟩
             rw [← hTQ]
             have hTq : TQ.length ≤ 100003000 := by rw [hTQ]; simp only [List.length_append, List.length_cons, List.length_nil]; omega
             have HTQ := aM hTQ
             clear hTQ
             have hcx3 := swB hW CX3.out
             have CX4 := aM (swB hW CX4.out)
             clear hW
             by_cases hd2 : y.f3 = 2
             · rw [hd2] at hcx3
               replace hd2 := aM hd2
               go_upto_region 26 with fail
               clear hcx3
               obtain ⟨wq, hwq⟩ : ∃ x, x = W := ⟨_, rfl⟩
               rw [← hwq] at CX4 HB BN ⊢
               clear hwq W
               refine seq_tailM [some 143, some 144, some 145, some 146, some 147, some 148, some 3] 190 6 [VP.eq (.string (sB (TQ))), VP.eq (.pointer (some ⟨g8, 4, none⟩)), VP.eq (.int .i64 (y.f4)), VP.eq (.string (sB (Lib.itoa y.f4))), VP.eq (.string (sB ([32] ++ (Lib.itoa y.f4)))), VP.eq (.string (sB ((TQ) ++ ([32] ++ (Lib.itoa y.f4)))))] rfl rfl (by kernel_rfl) rfl ⟨?_, ?_, ?_, ?_, ?_, ?_, trivial⟩ ?_
               · exact fun _ W _ hW _ hb hd _ hK _ => gn_ hK (x_move rfl (hb 3))
               · exact fun _ W _ hW _ hb hd _ hK _ => gn_ hK (x_fa95 rfl (of_decide_eq_true (by kernel_rfl)) (hb 11))
               · exact fun _ W _ hW _ hb hd _ hK _ => gn_ hK (x_ld3 rfl (hd 1 144) ((hW.cell (World.block_lt_of_cell? _ _ CX4.out)).trans CX4.out))
               · intro bq W B hW hB hb hd K hK hK2; exact gc_step (C := true) wn_ (fun _ => ⟨x_call Tryd.func33 (by kernel_rfl) rfl rfl (args1 (hd 2 145)), (digits_calls _ W SM4.out).mono (fun e_ W_ h_ => ⟨h_.1, h_.2⟩)⟩) (fun W_ hb_ => hK _ W_ rfl hb_)
               · exact fun _ W _ hW _ hb hd _ hK _ => gn_ hK (x_adds rfl rfl (hd 3 146) (sB_add ([32]) ((Lib.itoa y.f4))) (by show (sB ([32])).size + (sB ((Lib.itoa y.f4))).size ≤ 9223372036854775807; rw [sB_size, sB_size]; (try simp only [List.length_append, List.length_cons, List.length_nil]); omega))
               · exact fun _ W _ hW _ hb hd _ hK _ => gn_ hK (x_adds rfl (hd 0 143) (hd 4 147) (sB_add ((TQ)) (([32] ++ (Lib.itoa y.f4)))) (by show (sB ((TQ))).size + (sB (([32] ++ (Lib.itoa y.f4)))).size ≤ 9223372036854775807; rw [sB_size, sB_size]; (try simp only [List.length_append, List.length_cons, List.length_nil]); omega))
               · intro vals F W B hF hW hBB hV
                 have hf148 : vals 148 = .string (sB ((TQ) ++ ([32] ++ (Lib.itoa y.f4)))) := hV 5 148 (of_decide_eq_true (by kernel_rfl)) rfl
                 replace HB := aM (HB.out.trans (hW.mono HB.out.size))
                 replace BN := aK BN hW
                 rw [hF]
                 clear hF hV hBB
                 simp only [cond_true, List.take, fillA, Act.put, List.setIfInBounds_toArray, List.set_cons_zero, List.set_cons_succ, hf148]
                 clear hf148
                 clear hW
                 obtain ⟨TP, hTP⟩ : ∃ x, x = (((TQ) ++ ([32] ++ (Lib.itoa y.f4)))) := ⟨_, rfl⟩
                 rw [← hTP]
                 have hTq1 : TP.length ≤ 100003100 := by rw [hTP]; simp only [List.length_append, List.length_cons, List.length_nil]; omega
                 replace HTQ := aM (show TP = _ by rw [hTP, HTQ.out])
                 clear hTP hTq
                 go_upto_region 27 with fail
                 obtain ⟨wp, hwp⟩ : ∃ x, x = W := ⟨_, rfl⟩
                 rw [← hwp] at HB BN ⊢
                 clear hwp W
                 refine seq_tailM [some 149, some 150, some 3] 190 2 [VP.eq (.string (sB (TP))), VP.eq (.string (sB ((TP) ++ [10])))] rfl rfl (by kernel_rfl) rfl ⟨?_, ?_, trivial⟩ ?_
                 · exact fun _ W _ hW _ hb hd _ hK _ => gn_ hK (x_move rfl (hb 3))
                 · exact fun _ W _ hW _ hb hd _ hK _ => gn_ hK (x_adds rfl (hd 0 149) rfl (sB_add ((TP)) ([10])) (by show (sB ((TP))).size + (sB ([10])).size ≤ 9223372036854775807; rw [sB_size, sB_size]; (try simp only [List.length_append, List.length_cons, List.length_nil]); omega))
                 · intro vals F W B hF hW hBB hV
                   have hf150 : vals 150 = .string (sB ((TP) ++ [10])) := hV 1 150 (of_decide_eq_true (by kernel_rfl)) rfl
                   replace HB := aM (HB.out.trans (hW.mono HB.out.size))
                   replace BN := aK BN hW
                   rw [hF]
                   clear hF hV hBB
                   simp only [cond_true, List.take, fillA, Act.put, List.setIfInBounds_toArray, List.set_cons_zero, List.set_cons_succ, hf150]
                   clear hf150
                   clear hW
                   go_wp2
                   go_roundg (l0_4.length - (kk + 1))
                   case measure => exact sub_less hlt hg
                   case rel => exact ⟨kk + 1, _, hlt, Nat.le_refl _, rfl, by first | rw [ew] | rfl, ⟨by rw [HTQ.out, HTT.out, flat_snoc (iL l0_0) l0_4 kk _ hy, iL_eq, hd2.out, doT_2]; simp only [List.append_assoc, List.cons_append, List.nil_append]⟩, BN, HB⟩
             · have hcb : ¬ (y.f3 = 2) := hd2
               replace hd2 := aM hd2
               go_upto_region 27 with fail
               clear hcx3 hcb
               obtain ⟨wq, hwq⟩ : ∃ x, x = W := ⟨_, rfl⟩
               rw [← hwq] at CX4 HB BN ⊢
               clear hwq W
               refine seq_tailM [some 149, some 150, some 3] 190 2 [VP.eq (.string (sB (TQ))), VP.eq (.string (sB ((TQ) ++ [10])))] rfl rfl (by kernel_rfl) rfl ⟨?_, ?_, trivial⟩ ?_
               · exact fun _ W _ hW _ hb hd _ hK _ => gn_ hK (x_move rfl (hb 3))
               · exact fun _ W _ hW _ hb hd _ hK _ => gn_ hK (x_adds rfl (hd 0 149) rfl (sB_add ((TQ)) ([10])) (by show (sB ((TQ))).size + (sB ([10])).size ≤ 9223372036854775807; rw [sB_size, sB_size]; (try simp only [List.length_append, List.length_cons, List.length_nil]); omega))
               · intro vals F W B hF hW hBB hV
                 have hf150 : vals 150 = .string (sB ((TQ) ++ [10])) := hV 1 150 (of_decide_eq_true (by kernel_rfl)) rfl
                 replace HB := aM (HB.out.trans (hW.mono HB.out.size))
                 replace BN := aK BN hW
                 rw [hF]
                 clear hF hV hBB
                 simp only [cond_true, List.take, fillA, Act.put, List.setIfInBounds_toArray, List.set_cons_zero, List.set_cons_succ, hf150]
                 clear hf150
                 clear hW
                 go_wp2
                 go_roundg (l0_4.length - (kk + 1))
                 case measure => exact sub_less hlt hg
                 case rel => exact ⟨kk + 1, _, hlt, Nat.le_refl _, rfl, by first | rw [ew] | rfl, ⟨by rw [HTQ.out, HTT.out, flat_snoc (iL l0_0) l0_4 kk _ hy, iL_eq, doT_ne _ hd2.out]; simp only [List.append_assoc, List.cons_append, List.nil_append]⟩, BN, HB⟩
         · have hke : kk = l0_4.length := by omega
           subst hke
           replace HTT := aM (show TT = l0_0.flatMap rL ++ l0_1.flatMap (lL l0_0) ++ l0_2.flatMap (oL l0_0) ++ l0_3.flatMap (eL l0_0) ++ l0_4.flatMap (iL l0_0) by rw [HTT.out, List.take_of_length_le (Nat.le_refl _)])
           obtain ⟨wl4, hwl⟩ : ∃ x, x = wr := ⟨_, rfl⟩
           subst hwl
           go_wp2
           go_loopg [3, 12] l0_5.length (fun gg s3 s12 wr => ∃ (kk : Nat) (TT : List UInt8), kk ≤ l0_5.length ∧ l0_5.length - kk ≤ gg ∧ s3 = .string (sB TT) ∧ s12 = .int .i64 kk ∧ Aside0 (TT = (l0_0.flatMap rL ++ l0_1.flatMap (lL l0_0) ++ l0_2.flatMap (oL l0_0) ++ l0_3.flatMap (eL l0_0) ++ l0_4.flatMap (iL l0_0) ++ (l0_5.take kk).flatMap (fL l0_0))) ∧ Aside0 (wr.heap[gn]? = some (.cells #[.slice A0_0 l0_0.length c0_0, .slice A0_1 l0_1.length c0_1, .slice A0_2 l0_2.length c0_2, .slice A0_3 l0_3.length c0_3, .slice A0_4 l0_4.length c0_4, .slice A0_5 l0_5.length c0_5] 36 (0, 0))) ∧ Aside0 (Below w.heap.size w wr))
           case atStart => exact ⟨0, TT, Nat.zero_le _, by omega, rfl, rfl, ⟨by rw [List.take_zero, List.flatMap_nil, List.append_nil]; exact HTT.out⟩, BN, HB⟩
           clear BN HB hn0 hn1 hn2 hn3 hn4 hn5 HTT
           obtain ⟨kk, TT, hkk, hg, rfl, rfl, HTT, BN, HB⟩ := hrel
           obtain ⟨hn0, hn1, hn2, hn3, hn4, hn5⟩ := swc6 BN.out
           by_cases hlt : kk < l0_5.length
           · have hltz : (kk : Int) < (l0_5.length : Int) := by omega
             obtain ⟨ad1, ea1, e0, e1, e2, e3⟩ := at_T97 HR0_5.out (kk : Int) (by omega) hltz
             cases ea1
             rw [Int.toNat_natCast] at e0 e1 e2 e3
             have hy : l0_5[kk]? = some l0_5[kk] := List.getElem?_eq_getElem hlt
             have hrd : rd_T97 l0_5 (kk : Int) = l0_5[kk] := by unfold rd_T97; simp [List.getD, hlt]
             rw [hrd] at e0 e1 e2 e3
             have hmem := List.getElem_mem hlt
             obtain ⟨y, hyy⟩ : ∃ y, y = l0_5[kk] := ⟨_, rfl⟩
             rw [← hyy] at hy e0 e1 e2 e3 hmem
             clear hrd hyy
             replace e0 := swB HB.out e0
             replace e1 := swB HB.out e1
             replace e2 := swB HB.out e2
             replace e3 := swB HB.out e3
             have hl := HN.out.filt _ hmem
             obtain ⟨ad, ea, CS0⟩ := Kd.at_string HR0_0.out y.f0 hl.1.1 hl.1.2
             cases ea
             obtain ⟨ad', ea', CS1⟩ := Kd.at_string HR0_0.out y.f1 hl.2.1.1 hl.2.1.2
             obtain rfl := Option.some.inj ea'
             rw [← sB_nm] at CS0 CS1
             have IX0 := aM hl.1
             have IX1 := aM hl.2.1
             have SM2 := aM hl.2.2.1
             have SM3 := aM hl.2.2.2
             have hi2 := itoa_le hl.2.2.1
             have hi3 := itoa_le hl.2.2.2
             have hq0 := nm_le HN.out.name y.f0
             have hq1 := nm_le HN.out.name y.f1
             have ew : wrap64 ((kk : Int) + 1) = ((kk + 1 : Nat) : Int) := by rw [wr64 (by omega) (by have := HN.out.n5; omega)]; omega
             have hTl : TT.length ≤ 100000000 := (by rw [HTT.out]; have q0 := sflat_le rL l0_0 l0_0.length HN.out.n0 (fun x hx => line_le (rL_le (HN.out.name x hx)) (by simp) (by decide)); rw [List.take_of_length_le (Nat.le_refl _)] at q0; have q1 := sflat_le (lL l0_0) l0_1 l0_1.length HN.out.n1 (fun x hx => line_le (lL_le HN.out.name (HN.out.link x hx).2.2) (by simp) (by decide)); rw [List.take_of_length_le (Nat.le_refl _)] at q1; have q2 := sflat_le (oL l0_0) l0_2 l0_2.length HN.out.n2 (fun x hx => line_le (oL_le HN.out.name x) (by simp) (by decide)); rw [List.take_of_length_le (Nat.le_refl _)] at q2; have q3 := sflat_le (eL l0_0) l0_3 l0_3.length HN.out.n3 (fun x hx => line_le (eL_le HN.out.name x) (by simp) (by decide)); rw [List.take_of_length_le (Nat.le_refl _)] at q3; have q4 := sflat_le (iL l0_0) l0_4 l0_4.length HN.out.n4 (fun x hx => line_le (iL_le HN.out.name (HN.out.imp x hx).2.2.2.2) (by simp) (by decide)); rw [List.take_of_length_le (Nat.le_refl _)] at q4; have q5 := sflat_le (fL l0_0) l0_5 kk HN.out.n5 (fun x hx => line_le (fL_le HN.out.name (HN.out.filt x hx).2.2.1 (HN.out.filt x hx).2.2.2) (by simp) (by decide)); simp only [List.length_append]; omega)
             go_upto_region 32 with (first | ((with_reducible refine gate_dst (N := 13) rfl ?_); refine box_event rfl (N := 13) rfl (cs := #[.int .i64 0, .int .i64 0, .int .i64 0, .int .i64 0]) (t := 67) (by go_simp; done) ?_; intro g8 hg8 w8 hbox hbb; have HX := aM hbox; have HG8 := aM (Nat.le_of_eq hg8.symm : wr.heap.size ≤ g8); have HB8 := aM hbb; clear hbox hbb hg8) | ((with_reducible refine gate_store (t := 67) (p := 13) rfl ?_); obtain ⟨hc0, hc1, hc2, hc3⟩ := swc4 HX.out; have hf0 := blk_frozen HX.out 0; have hf1 := blk_frozen HX.out 1; have hf2 := blk_frozen HX.out 2; have hf3 := blk_frozen HX.out 3; refine store_event (t := 67) (p := 13) (v := ?vo32) (w1 := ((((w8.setCell ⟨g8, 0, none⟩ (.int .i64 y.f0)).setCell ⟨g8, 1, none⟩ (.int .i64 y.f1)).setCell ⟨g8, 2, none⟩ (.int .i64 y.f2)).setCell ⟨g8, 3, none⟩ (.int .i64 y.f3))) ?hg32 ?ho32 ?hn32 ?hr32 ?_; (case ho32 => rfl); (case hg32 => rfl); (case hn32 => rfl); (case hr32 => (go_simp; done)); clear hc0 hf0 hc1 hf1 hc2 hf2 hc3 hf3; intro w9 hw_; obtain ⟨hbk, hkb, hkw⟩ := boxi4 (a0 := y.f0) (a1 := y.f1) (a2 := y.f2) (a3 := y.f3) HX.out; rw [← hw_] at hbk hkb hkw; clear hw_ hkb; have HB9 := aM (hkw wr HB8.out HG8.out); replace HX := aM hbk; replace BN := aK BN HB9.out; replace HB := aB HB HB9.out; clear hbk hkw))
             clear hn0 hn1 hn2 hn3 hn4 hn5
             obtain ⟨hn0, hn1, hn2, hn3, hn4, hn5⟩ := swc6 BN.out
             obtain ⟨cx0, cx1, cx2, cx3⟩ := swc4 HX.out
             have CX0 := aM cx0
             have CX1 := aM cx1
             have CX2 := aM cx2
             have CX3 := aM cx3
             replace CS0 := aM (swB HB.out CS0)
             replace CS1 := aM (swB HB.out CS1)
             clear hn0 hn1 hn2 hn3 hn4 hn5 cx0 cx1 cx2 cx3
             have HBd : Aside0 (Below w.heap.size w w9.drew) := ⟨below_drew HB.out⟩
             refine any_tailM [some 163, some 164, some 165, some 166, some 167, some 168, some 169, some 170, some 171, some 172, some 173, some 174, some 175, some 176, some 177, some 178, some 179, some 180, some 181, some 182, some 183, some 184, some 185, some 186, some 187, some 188, some 3] 190 26 [0, 0, 0, 4, 14, 30, 62, 126, 0, 0, 512, 1792, 3840, 8190, 16382, 0, 32768, 98304, 262142, 524286, 0, 1048576, 3375104, 8388606, 16777214, 33554431, 67108863] [VP.eq (.string (sB (TT))), VP.eq (.slice (some ad) l0_0.length c0_0), VP.eq (.pointer (some ⟨g8, 0, none⟩)), VP.eq (.int .i64 (y.f0)), VP.eq (.pointer (some (ad.add (y.f0).toNat))), VP.eq (.string (sB (nm l0_0 y.f0))), VP.eq (.string (sB ([102, 105, 108, 116, 101, 114, 32] ++ (nm l0_0 y.f0)))), VP.eq (.string (sB (([102, 105, 108, 116, 101, 114, 32] ++ (nm l0_0 y.f0)) ++ [32, 116, 111, 32]))), VP.eq (.slice (some ad) l0_0.length c0_0), VP.eq (.pointer (some ⟨g8, 1, none⟩)), VP.eq (.int .i64 (y.f1)), VP.eq (.pointer (some (ad.add (y.f1).toNat))), VP.eq (.string (sB (nm l0_0 y.f1))), VP.eq (.string (sB ((([102, 105, 108, 116, 101, 114, 32] ++ (nm l0_0 y.f0)) ++ [32, 116, 111, 32]) ++ (nm l0_0 y.f1)))), VP.eq (.string (sB (((([102, 105, 108, 116, 101, 114, 32] ++ (nm l0_0 y.f0)) ++ [32, 116, 111, 32]) ++ (nm l0_0 y.f1)) ++ [32, 112, 111, 114, 116, 32]))), VP.eq (.pointer (some ⟨g8, 2, none⟩)), VP.eq (.int .i64 (y.f2)), VP.eq (.string (sB (Lib.itoa y.f2))), VP.eq (.string (sB ((((([102, 105, 108, 116, 101, 114, 32] ++ (nm l0_0 y.f0)) ++ [32, 116, 111, 32]) ++ (nm l0_0 y.f1)) ++ [32, 112, 111, 114, 116, 32]) ++ (Lib.itoa y.f2)))), VP.eq (.string (sB (((((([102, 105, 108, 116, 101, 114, 32] ++ (nm l0_0 y.f0)) ++ [32, 116, 111, 32]) ++ (nm l0_0 y.f1)) ++ [32, 112, 111, 114, 116, 32]) ++ (Lib.itoa y.f2)) ++ [32]))), VP.eq (.pointer (some ⟨g8, 3, none⟩)), VP.eq (.int .i64 (y.f3)), VP.eq (.string (sB (Lib.itoa y.f3))), VP.eq (.string (sB ((((((([102, 105, 108, 116, 101, 114, 32] ++ (nm l0_0 y.f0)) ++ [32, 116, 111, 32]) ++ (nm l0_0 y.f1)) ++ [32, 112, 111, 114, 116, 32]) ++ (Lib.itoa y.f2)) ++ [32]) ++ (Lib.itoa y.f3)))), VP.eq (.string (sB (((((((([102, 105, 108, 116, 101, 114, 32] ++ (nm l0_0 y.f0)) ++ [32, 116, 111, 32]) ++ (nm l0_0 y.f1)) ++ [32, 112, 111, 114, 116, 32]) ++ (Lib.itoa y.f2)) ++ [32]) ++ (Lib.itoa y.f3)) ++ [10]))), VP.eq (.string (sB ((TT) ++ (((((((([102, 105, 108, 116, 101, 114, 32] ++ (nm l0_0 y.f0)) ++ [32, 116, 111, 32]) ++ (nm l0_0 y.f1)) ++ [32, 112, 111, 114, 116, 32]) ++ (Lib.itoa y.f2)) ++ [32]) ++ (Lib.itoa y.f3)) ++ [10]))))] rfl sx_r32_tab rfl rfl (by kernel_rfl) rfl ⟨?_, ?_, ?_, ?_, ?_, ?_, ?_, ?_, ?_, ?_, ?_, ?_, ?_, ?_, ?_, ?_, ?_, ?_, ?_, ?_, ?_, ?_, ?_, ?_, ?_, ?_, trivial⟩ ?_
             · exact fun _ W _ hW _ hb hd _ hK _ => gn_ hK (x_move rfl (hb 3))
             · exact fun _ W _ hW _ hb hd _ hK _ => gn_ hK (x_move rfl (hb 4))
             · exact fun _ W _ hW _ hb hd _ hK _ => gn_ hK (x_fa97 rfl (of_decide_eq_true (by kernel_rfl)) (hb 13))
             · exact fun _ W _ hW _ hb hd _ hK _ => gn_ hK (x_ld3 rfl (hd 2 165) ((hW.cell (World.block_lt_of_cell? _ _ CX0.out)).trans CX0.out))
             · exact fun _ W _ hW _ hb hd _ hK _ => gn_ hK (x_ixs rfl (hd 1 164) (hd 3 166) IX0.out.1 IX0.out.2 HM.out)
             · exact fun _ W _ hW _ hb hd _ hK _ => gn_ hK (x_ld9 rfl (hd 4 167) ((hW.cell (World.block_lt_of_cell? _ _ CS0.out)).trans CS0.out))
             · exact fun _ W _ hW _ hb hd _ hK _ => gn_ hK (x_adds rfl rfl (hd 5 168) (sB_add ([102, 105, 108, 116, 101, 114, 32]) ((nm l0_0 y.f0))) (by show (sB ([102, 105, 108, 116, 101, 114, 32])).size + (sB ((nm l0_0 y.f0))).size ≤ 9223372036854775807; rw [sB_size, sB_size]; (try simp only [List.length_append, List.length_cons, List.length_nil]); omega))
             · exact fun _ W _ hW _ hb hd _ hK _ => gn_ hK (x_adds rfl (hd 6 169) rfl (sB_add (([102, 105, 108, 116, 101, 114, 32] ++ (nm l0_0 y.f0))) ([32, 116, 111, 32])) (by show (sB (([102, 105, 108, 116, 101, 114, 32] ++ (nm l0_0 y.f0)))).size + (sB ([32, 116, 111, 32])).size ≤ 9223372036854775807; rw [sB_size, sB_size]; (try simp only [List.length_append, List.length_cons, List.length_nil]); omega))
             · exact fun _ W _ hW _ hb hd _ hK _ => gn_ hK (x_move rfl (hb 4))
             · exact fun _ W _ hW _ hb hd _ hK _ => gn_ hK (x_fa97 rfl (of_decide_eq_true (by kernel_rfl)) (hb 13))
             · exact fun _ W _ hW _ hb hd _ hK _ => gn_ hK (x_ld3 rfl (hd 9 172) ((hW.cell (World.block_lt_of_cell? _ _ CX1.out)).trans CX1.out))
             · exact fun _ W _ hW _ hb hd _ hK _ => gn_ hK (x_ixs rfl (hd 8 171) (hd 10 173) IX1.out.1 IX1.out.2 HM.out)
             · exact fun _ W _ hW _ hb hd _ hK _ => gn_ hK (x_ld9 rfl (hd 11 174) ((hW.cell (World.block_lt_of_cell? _ _ CS1.out)).trans CS1.out))
             · exact fun _ W _ hW _ hb hd _ hK _ => gn_ hK (x_adds rfl (hd 7 170) (hd 12 175) (sB_add ((([102, 105, 108, 116, 101, 114, 32] ++ (nm l0_0 y.f0)) ++ [32, 116, 111, 32])) ((nm l0_0 y.f1))) (by show (sB ((([102, 105, 108, 116, 101, 114, 32] ++ (nm l0_0 y.f0)) ++ [32, 116, 111, 32]))).size + (sB ((nm l0_0 y.f1))).size ≤ 9223372036854775807; rw [sB_size, sB_size]; (try simp only [List.length_append, List.length_cons, List.length_nil]); omega))
             · exact fun _ W _ hW _ hb hd _ hK _ => gn_ hK (x_adds rfl (hd 13 176) rfl (sB_add (((([102, 105, 108, 116, 101, 114, 32] ++ (nm l0_0 y.f0)) ++ [32, 116, 111, 32]) ++ (nm l0_0 y.f1))) ([32, 112, 111, 114, 116, 32])) (by show (sB (((([102, 105, 108, 116, 101, 114, 32] ++ (nm l0_0 y.f0)) ++ [32, 116, 111, 32]) ++ (nm l0_0 y.f1)))).size + (sB ([32, 112, 111, 114, 116, 32])).size ≤ 9223372036854775807; rw [sB_size, sB_size]; (try simp only [List.length_append, List.length_cons, List.length_nil]); omega))
             · exact fun _ W _ hW _ hb hd _ hK _ => gn_ hK (x_fa97 rfl (of_decide_eq_true (by kernel_rfl)) (hb 13))
             · exact fun _ W _ hW _ hb hd _ hK _ => gn_ hK (x_ld3 rfl (hd 15 178) ((hW.cell (World.block_lt_of_cell? _ _ CX2.out)).trans CX2.out))
             · intro bq W B hW hB hb hd K hK hK2; exact gc_step (C := true) wn_ (fun _ => ⟨x_call Tryd.func33 (by kernel_rfl) rfl rfl (args1 (hd 16 179)), (digits_calls _ W SM2.out).mono (fun e_ W_ h_ => ⟨h_.1, h_.2⟩)⟩) (fun W_ hb_ => hK _ W_ rfl hb_)
             · exact fun _ W _ hW _ hb hd _ hK _ => gn_ hK (x_adds rfl (hd 14 177) (hd 17 180) (sB_add ((((([102, 105, 108, 116, 101, 114, 32] ++ (nm l0_0 y.f0)) ++ [32, 116, 111, 32]) ++ (nm l0_0 y.f1)) ++ [32, 112, 111, 114, 116, 32])) ((Lib.itoa y.f2))) (by show (sB ((((([102, 105, 108, 116, 101, 114, 32] ++ (nm l0_0 y.f0)) ++ [32, 116, 111, 32]) ++ (nm l0_0 y.f1)) ++ [32, 112, 111, 114, 116, 32]))).size + (sB ((Lib.itoa y.f2))).size ≤ 9223372036854775807; rw [sB_size, sB_size]; (try simp only [List.length_append, List.length_cons, List.length_nil]); omega))
             · exact fun _ W _ hW _ hb hd _ hK _ => gn_ hK (x_adds rfl (hd 18 181) rfl (sB_add (((((([102, 105, 108, 116, 101, 114, 32] ++ (nm l0_0 y.f0)) ++ [32, 116, 111, 32]) ++ (nm l0_0 y.f1)) ++ [32, 112, 111, 114, 116, 32]) ++ (Lib.itoa y.f2))) ([32])) (by show (sB (((((([102, 105, 108, 116, 101, 114, 32] ++ (nm l0_0 y.f0)) ++ [32, 116, 111, 32]) ++ (nm l0_0 y.f1)) ++ [32, 112, 111, 114, 116, 32]) ++ (Lib.itoa y.f2)))).size + (sB ([32])).size ≤ 9223372036854775807; rw [sB_size, sB_size]; (try simp only [List.length_append, List.length_cons, List.length_nil]); omega))
             · exact fun _ W _ hW _ hb hd _ hK _ => gn_ hK (x_fa97 rfl (of_decide_eq_true (by kernel_rfl)) (hb 13))
             · exact fun _ W _ hW _ hb hd _ hK _ => gn_ hK (x_ld3 rfl (hd 20 183) ((hW.cell (World.block_lt_of_cell? _ _ CX3.out)).trans CX3.out))
             · intro bq W B hW hB hb hd K hK hK2; exact gc_step (C := true) wn_ (fun _ => ⟨x_call Tryd.func33 (by kernel_rfl) rfl rfl (args1 (hd 21 184)), (digits_calls _ W SM3.out).mono (fun e_ W_ h_ => ⟨h_.1, h_.2⟩)⟩) (fun W_ hb_ => hK _ W_ rfl hb_)
             · exact fun _ W _ hW _ hb hd _ hK _ => gn_ hK (x_adds rfl (hd 19 182) (hd 22 185) (sB_add ((((((([102, 105, 108, 116, 101, 114, 32] ++ (nm l0_0 y.f0)) ++ [32, 116, 111, 32]) ++ (nm l0_0 y.f1)) ++ [32, 112, 111, 114, 116, 32]) ++ (Lib.itoa y.f2)) ++ [32])) ((Lib.itoa y.f3))) (by show (sB ((((((([102, 105, 108, 116, 101, 114, 32] ++ (nm l0_0 y.f0)) ++ [32, 116, 111, 32]) ++ (nm l0_0 y.f1)) ++ [32, 112, 111, 114, 116, 32]) ++ (Lib.itoa y.f2)) ++ [32]))).size + (sB ((Lib.itoa y.f3))).size ≤ 9223372036854775807; rw [sB_size, sB_size]; (try simp only [List.length_append, List.length_cons, List.length_nil]); omega))
             · exact fun _ W _ hW _ hb hd _ hK _ => gn_ hK (x_adds rfl (hd 23 186) rfl (sB_add (((((((([102, 105, 108, 116, 101, 114, 32] ++ (nm l0_0 y.f0)) ++ [32, 116, 111, 32]) ++ (nm l0_0 y.f1)) ++ [32, 112, 111, 114, 116, 32]) ++ (Lib.itoa y.f2)) ++ [32]) ++ (Lib.itoa y.f3))) ([10])) (by show (sB (((((((([102, 105, 108, 116, 101, 114, 32] ++ (nm l0_0 y.f0)) ++ [32, 116, 111, 32]) ++ (nm l0_0 y.f1)) ++ [32, 112, 111, 114, 116, 32]) ++ (Lib.itoa y.f2)) ++ [32]) ++ (Lib.itoa y.f3)))).size + (sB ([10])).size ≤ 9223372036854775807; rw [sB_size, sB_size]; (try simp only [List.length_append, List.length_cons, List.length_nil]); omega))
             · exact fun _ W _ hW _ hb hd _ hK _ => gn_ hK (x_adds rfl (hd 0 163) (hd 24 187) (sB_add ((TT)) ((((((((([102, 105, 108, 116, 101, 114, 32] ++ (nm l0_0 y.f0)) ++ [32, 116, 111, 32]) ++ (nm l0_0 y.f1)) ++ [32, 112, 111, 114, 116, 32]) ++ (Lib.itoa y.f2)) ++ [32]) ++ (Lib.itoa y.f3)) ++ [10]))) (by show (sB ((TT))).size + (sB ((((((((([102, 105, 108, 116, 101, 114, 32] ++ (nm l0_0 y.f0)) ++ [32, 116, 111, 32]) ++ (nm l0_0 y.f1)) ++ [32, 112, 111, 114, 116, 32]) ++ (Lib.itoa y.f2)) ++ [32]) ++ (Lib.itoa y.f3)) ++ [10]))).size ≤ 9223372036854775807; rw [sB_size, sB_size]; (try simp only [List.length_append, List.length_cons, List.length_nil]); omega))
             · intro vals F W B hF hW hBB hV
               have hf188 : vals 188 = .string (sB ((TT) ++ (((((((([102, 105, 108, 116, 101, 114, 32] ++ (nm l0_0 y.f0)) ++ [32, 116, 111, 32]) ++ (nm l0_0 y.f1)) ++ [32, 112, 111, 114, 116, 32]) ++ (Lib.itoa y.f2)) ++ [32]) ++ (Lib.itoa y.f3)) ++ [10]))) := hV 25 188 (of_decide_eq_true (by kernel_rfl)) rfl
               replace HB := aM (HBd.out.trans (hW.mono HBd.out.size))
               replace BN := aK (aM (blk_drew BN.out)) hW
               rw [hF]
               clear hF hV hBB HBd
               simp only [cond_true, List.take, fillA, Act.put, List.setIfInBounds_toArray, List.set_cons_zero, List.set_cons_succ, hf188]
               clear hf188
               clear hW
               go_wp2
               go_roundg (l0_5.length - (kk + 1))
               case measure => exact sub_less hlt hg
               case rel => exact ⟨kk + 1, _, hlt, Nat.le_refl _, rfl, by first | rw [ew] | rfl, ⟨by rw [HTT.out, flat_snoc (fL l0_0) l0_5 kk _ hy, fL_eq]; simp only [List.append_assoc, List.cons_append, List.nil_append]⟩, BN, HB⟩
           · have hke : kk = l0_5.length := by omega
             subst hke
             replace HTT := aM (show TT = l0_0.flatMap rL ++ l0_1.flatMap (lL l0_0) ++ l0_2.flatMap (oL l0_0) ++ l0_3.flatMap (eL l0_0) ++ l0_4.flatMap (iL l0_0) ++ l0_5.flatMap (fL l0_0) by rw [HTT.out, List.take_of_length_le (Nat.le_refl _)])
             obtain ⟨wl5, hwl⟩ : ∃ x, x = wr := ⟨_, rfl⟩
             subst hwl
             go_wp2
             go_ret
             exact ⟨by rw [HTT.out]; rfl, HB.out⟩
end Go.Proofs.YtgibacfgjmdjdaaDoor.PFnExactIsStable
