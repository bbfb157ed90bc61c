/- FnExactResolve: the pure statement behind the law: what two clauses resolve to is what the reference finds. No conditions. -/
import Derived.Test.YtelfahcjeldliaaDefFnExactResolve
import Derived.Test.YtelfahcjeldliaaPlain
set_option linter.unusedVariables false
set_option linter.unusedSimpArgs false
namespace Go.Proofs.Ytelfahcjeldliaa.Pure
open Go.RowKit Go.Proofs.Ytelfahcjeldliaa Go.Proofs.Ytelfahcjeldliaa.PFnExactResolve Go.Proofs.YtelfahcjeldliaaW.PrintWords Go.Proofs.YtelfahcjeldliaaW.PrintLast Go.Proofs.YtelfahcjeldliaaW.PrintMore Go.Proofs.Ytelfahcjeldliaa.Plain

theorem in_is (x lo hi : Int) : spec_l01In.f x lo hi = some (decide (lo ≤ x) && decide (x ≤ hi)) := by
  unfold spec_l01In.f
  by_cases h : x ≥ lo
  · rw [if_pos h, decide_eq_true h, Bool.true_and]
  · rw [if_neg h, decide_eq_false h, Bool.false_and]
/-- what is left when a list is counted -/
theorem toI_is (l : List Int) (hl : l.length ≤ 35184372088832) : Ev (fun k => laws_toIntS.f k l) l := by
  refine evc (fun k => laws_toIntS.f.eq_1 ..) (ifp (by omega) (ifp (by omega) ?_))
  have := copy (fun x : Int => x) l (fun i out k => laws_toIntS.l0 k l out i) ?_ ?_ (List.replicate (l.length : Int).toNat 0) (by simp)
  · simpa using this
  · intro out
    exact stp (fun k => laws_toIntS.l0.eq_2 ..) (ifn (by omega) (sm _))
  · intro i out r x hx hlen hk
    have hi : i < l.length := (List.getElem?_eq_some_iff.1 hx).1
    refine stp (fun k => laws_toIntS.l0.eq_2 ..) (ifp (by omega) (ifp (by omega) (ifp (by omega) ?_)))
    rw [show rd l (i : Int) = x from getD_some hx, up (by omega) (by omega : (i : Int) < (l.length : Int)) (by omega), Int.toNat_natCast]
    exact hk
theorem eqI_self (l : List Int) (hl : l.length ≤ 140737488351232) : Ev (fun k => laws_eqIntS.f k l l) true := by
  refine evc (fun k => laws_eqIntS.f.eq_1 ..) (ifp rfl ?_)
  refine same l (fun i k => laws_eqIntS.l0 k l l i) ?_ ?_
  · exact stp (fun k => laws_eqIntS.l0.eq_2 ..) (ifn (by omega) (sm _))
  · intro i x hx hk
    have hi : i < l.length := (List.getElem?_eq_some_iff.1 hx).1
    refine stp (fun k => laws_eqIntS.l0.eq_2 ..) (ifp (by omega) (ifp (by omega) (ifp (by omega) (ifp rfl ?_))))
    rw [up (by omega) (by omega : (i : Int) < (l.length : Int)) (by omega)]
    exact hk
theorem specClause_is (c : List Int) (vars : Int) (hc : c.length * 8 ≤ 140737488351232) : Ev (fun k => spec_l01Clause.f k c vars) (clauseB c vars) := by
  unfold clauseB
  rw [not_any_not c (fun x => litB x vars)]
  refine evc (fun k => spec_l01Clause.f.eq_1 ..) ?_
  by_cases h : c.length ≤ 12
  · rw [decide_eq_true h, Bool.true_and]
    refine ifn (by omega) ?_
    refine allL c (fun x => litB x vars) (fun i k => spec_l01Clause.l0 k c vars i) ?_ ?_
    · exact stp (fun k => spec_l01Clause.l0.eq_2 ..) (ifn (by omega) (sm _))
    · intro i x r hx hk
      have hi : i < c.length := (List.getElem?_eq_some_iff.1 hx).1
      refine stp (fun k => spec_l01Clause.l0.eq_2 ..) (ifp (by omega) (ifp (by omega) ?_))
      rw [show rd c (i : Int) = x from getD_some hx, up (by omega) (by omega : (i : Int) < (c.length : Int)) (by omega)]
      unfold litB
      by_cases hz : x = 0
      · refine ifp hz ?_
        rw [decide_eq_false (by simpa using hz)]
        exact sm _
      · refine ifn hz (bnd0 (in_is _ _ _) ?_)
        rw [decide_eq_true hz, Bool.true_and]
        cases hb : decide (wrap64 (-vars) ≤ x) && decide (x ≤ vars) with
        | true => exact ifp rfl (by simpa using hk)
        | false => exact ifn (by simp) (sm _)
  · rw [decide_eq_false h, Bool.false_and]
    exact ifp (by omega) (sm _)
theorem markN_is (l : List Int) (k0 : Int) (h0 : 0 ≤ k0) (h1 : k0 + (l.length : Int) ≤ 1000000000000000000) : ∃ m : List Int, m.length = l.length ∧ (∀ j : Nat, j < m.length → rd m (j : Int) = k0 + (j : Int)) ∧ Ev (fun k => laws_markIntS.f k l k0) (k0 + (l.length : Int), m) := by
  have key : ∀ (d i : Nat) (x : List Int), i + d = l.length → x.length = l.length → (∀ j : Nat, j < i → rd x (j : Int) = k0 + (j : Int)) → ∃ m : List Int, m.length = l.length ∧ (∀ j : Nat, j < m.length → rd m (j : Int) = k0 + (j : Int)) ∧ Ev (fun k => laws_markIntS.l0 k x (k0 + (i : Int)) (i : Int)) (k0 + (l.length : Int), m) := by
    intro d
    induction d with
    | zero =>
      intro i x hi hx hj
      obtain rfl : i = l.length := by omega
      exact ⟨x, hx, by rw [hx]; exact hj, stp (fun k => laws_markIntS.l0.eq_2 ..) (ifn (by omega) (sm _))⟩
    | succ d ih =>
      intro i x hi hx hj
      obtain ⟨m, m1, m2, m3⟩ := ih (i + 1) (x.set i (k0 + (i : Int))) (by omega) (by simpa using hx) (by
        intro j hlt
        by_cases e : j = i
        · subst e
          unfold rd
          simp [List.getD, show j < x.length by omega]
        · have := hj j (by omega)
          unfold rd at this ⊢
          simp only [Int.toNat_natCast] at this ⊢
          rw [List.getD_eq_getElem?_getD, List.getElem?_set_ne (by omega), ← List.getD_eq_getElem?_getD]
          exact this)
      refine ⟨m, m1, m2, stp (fun k => laws_markIntS.l0.eq_2 ..) (ifp (by omega) (ifp (by omega) ?_))⟩
      rw [up (by omega) (by omega : (i : Int) < (l.length : Int)) (by omega), w64 (by omega) (by omega), Int.toNat_natCast]
      rw [show ((i + 1 : Nat) : Int) = (i : Int) + 1 by omega, ← Int.add_assoc] at m3
      exact m3
  obtain ⟨m, m1, m2, m3⟩ := key l.length 0 l (by omega) rfl (fun j hj => absurd hj (Nat.not_lt_zero _))
  refine ⟨m, m1, m2, evc (fun k => laws_markIntS.f.eq_1 ..) ?_⟩
  simpa using m3
theorem heldN_is (m : List Int) (k0 : Int) (h0 : 0 ≤ k0) (h1 : k0 + (m.length : Int) ≤ 1000000000000000000) (hm : ∀ j : Nat, j < m.length → rd m (j : Int) = k0 + (j : Int)) : Ev (fun k => laws_heldIntS.f k m k0) (k0 + (m.length : Int)) := by
  have key : ∀ (d i : Nat), i + d = m.length → Ev (fun k => laws_heldIntS.l0 k m (k0 + (i : Int)) (i : Int)) (k0 + (m.length : Int)) := by
    intro d
    induction d with
    | zero =>
      intro i hi
      obtain rfl : i = m.length := by omega
      exact stp (fun k => laws_heldIntS.l0.eq_2 ..) (ifn (by omega) (sm _))
    | succ d ih =>
      intro i hi
      have := ih (i + 1) (by omega)
      rw [show ((i + 1 : Nat) : Int) = (i : Int) + 1 by omega, ← Int.add_assoc] at this
      refine stp (fun k => laws_heldIntS.l0.eq_2 ..) (ifp (by omega) (ifp (by omega) (ifp (hm i (by omega)) ?_)))
      rw [up (by omega) (by omega : (i : Int) < (m.length : Int)) (by omega), w64 (x := k0 + (i : Int) + 1) (by omega) (by omega)]
      exact this
  have := key m.length 0 (by omega)
  refine evc (fun k => laws_heldIntS.f.eq_1 ..) ?_
  simpa using this
/-- in order, each once -/
def SS (l : List Int) : Prop := l.Pairwise fun x y => rk x < rk y
theorem ss_ext : ∀ {a b : List Int}, SS a → SS b → (∀ x, x ∈ a ↔ x ∈ b) → a = b
  | [], [], _, _, _ => rfl
  | [], y :: b, _, _, h => by have := (h y).2 List.mem_cons_self; cases this
  | x :: a, [], _, _, h => by have := (h x).1 List.mem_cons_self; cases this
  | x :: a, y :: b, ha, hb, h => by
    have ha1 := List.pairwise_cons.1 ha
    have hb1 := List.pairwise_cons.1 hb
    have e : x = y := by
      rcases List.mem_cons.1 ((h x).1 List.mem_cons_self) with e | e
      · exact e
      · rcases List.mem_cons.1 ((h y).2 List.mem_cons_self) with e2 | e2
        · exact e2.symm
        · have h1 := hb1.1 x e
          have h2 := ha1.1 y e2
          omega
    subst e
    refine congrArg (x :: ·) (ss_ext ha1.2 hb1.2 (fun z => ⟨fun hz => ?_, fun hz => ?_⟩))
    · rcases List.mem_cons.1 ((h z).1 (List.mem_cons_of_mem _ hz)) with e | e
      · subst e
        have := ha1.1 z hz
        omega
      · exact e
    · rcases List.mem_cons.1 ((h z).2 (List.mem_cons_of_mem _ hz)) with e | e
      · subst e
        have := hb1.1 z hz
        omega
      · exact e
theorem insR_nil (c : Int) : insR c [] = [c] := rfl
theorem insR_cons (c y : Int) (r : List Int) : insR c (y :: r) = if rk y < rk c then y :: insR c r else if y = c then y :: r else c :: y :: r := by
  unfold insR
  by_cases h : rk y < rk c
  · rw [if_pos h, show cntB c (y :: r) = cntB c r + 1 by rw [cntB, if_pos h]]
    simp only [List.getElem?_cons_succ, List.take_succ_cons, List.drop_succ_cons, List.cons_append]
    split <;> rfl
  · rw [if_neg h, show cntB c (y :: r) = 0 by rw [cntB, if_neg h]]
    by_cases e : y = c
    · subst e; simp
    · rw [if_neg e]
      have e2 : ¬ (y :: r)[0]? = some c := by simpa using e
      rw [if_neg e2]
      rfl
theorem insR_mem (c : Int) : ∀ (l : List Int) (x : Int), x ∈ insR c l ↔ x = c ∨ x ∈ l
  | [], x => by rw [insR_nil]; simp
  | y :: r, x => by
    rw [insR_cons]
    split
    · rw [List.mem_cons, insR_mem c r x, List.mem_cons]
      constructor
      · rintro (h | h | h)
        · exact .inr (.inl h)
        · exact .inl h
        · exact .inr (.inr h)
      · rintro (h | h | h)
        · exact .inr (.inl h)
        · exact .inl h
        · exact .inr (.inr h)
    · split
      · rename_i e
        subst e
        rw [List.mem_cons]
        constructor
        · exact .inr
        · rintro (h | h)
          · exact .inl h
          · exact h
      · rw [List.mem_cons]
theorem insR_ss (c : Int) : ∀ l : List Int, SS l → SS (insR c l)
  | [], _ => by rw [insR_nil]; exact List.pairwise_singleton _ _
  | y :: r, h => by
    have h1 := List.pairwise_cons.1 h
    rw [insR_cons]
    split
    · refine List.pairwise_cons.2 ⟨fun z hz => ?_, insR_ss c r h1.2⟩
      rcases (insR_mem c r z).1 hz with e | e
      · subst e; assumption
      · exact h1.1 z e
    · split
      · exact h
      · rename_i h2 h3
        have hlt : rk c < rk y := by
          have : rk y ≠ rk c := fun e => h3 (rk_inj e)
          omega
        refine List.pairwise_cons.2 ⟨fun z hz => ?_, h⟩
        rcases List.mem_cons.1 hz with e | e
        · subst e; exact hlt
        · have := h1.1 z e
          omega
theorem insAll_mem : ∀ (l o : List Int) (x : Int), x ∈ insAll l o ↔ x ∈ l ∨ x ∈ o
  | [], o, x => by rw [insAll]; simp
  | c :: r, o, x => by
    rw [insAll, insAll_mem r (insR c o) x, insR_mem, List.mem_cons]
    constructor
    · rintro (h | h | h)
      · exact .inl (.inr h)
      · exact .inl (.inl h)
      · exact .inr h
    · rintro ((h | h) | h)
      · exact .inr (.inl h)
      · exact .inl h
      · exact .inr (.inr h)
theorem insAll_ss : ∀ (l o : List Int), SS o → SS (insAll l o)
  | [], o, h => h
  | c :: r, o, h => insAll_ss r (insR c o) (insR_ss c o h)
theorem getElem!_list (l : List Int) (j : Nat) (hj : j < l.length) : l.toArray[j]! = l[j] := by
  rw [getElem!_pos l.toArray j (by simpa using hj)]
  simp
theorem compact_mem (l : List Int) (x : Int) : x ∈ Go.Lib.compact l ↔ x ∈ l := by
  unfold Go.Lib.compact Go.Lib.compactUpTo
  simp only [List.mem_map, List.mem_filter, List.mem_range]
  constructor
  · rintro ⟨j, ⟨hj, -⟩, rfl⟩
    rw [getElem!_list l j hj]
    exact List.getElem_mem hj
  · intro hx
    obtain ⟨j, hj, e⟩ := List.mem_iff_getElem.1 hx
    have key : ∀ j, j < l.length → l.toArray[j]! = x → ∃ i, (i < l.length ∧ Go.Lib.keeps l.toArray i = true) ∧ l.toArray[i]! = x := by
      intro j
      induction j with
      | zero => intro hj he; exact ⟨0, ⟨hj, Go.Lib.keeps_lt_one _ 0 (by omega)⟩, he⟩
      | succ j ih =>
        intro hj he
        by_cases h : l.toArray[j + 1]! = l.toArray[j + 1 - 1]!
        · rw [Nat.add_sub_cancel] at h
          exact ih (by omega) (h.symm.trans he)
        · exact ⟨j + 1, ⟨hj, Go.Lib.keeps_pos h⟩, he⟩
    exact key j hj (by rw [getElem!_list l j hj]; exact e)
theorem compact_ss (l : List Int) (h : l.Pairwise fun x y => rk x ≤ rk y) : SS (Go.Lib.compact l) := by
  unfold Go.Lib.compact Go.Lib.compactUpTo SS
  rw [List.pairwise_map]
  refine List.Pairwise.imp_of_mem ?_ (List.Pairwise.filter _ List.pairwise_lt_range)
  intro i j hi hj hij
  have hi1 := List.mem_filter.1 hi
  have hj1 := List.mem_filter.1 hj
  have hil := List.mem_range.1 hi1.1
  have hjl := List.mem_range.1 hj1.1
  have hk := hj1.2
  unfold Go.Lib.keeps at hk
  have hne : l.toArray[j]! ≠ l.toArray[j - 1]! := by
    rcases of_decide_eq_true hk with h0 | h0
    · omega
    · exact h0
  have hp := List.pairwise_iff_getElem.1 h
  rw [getElem!_list l j hjl, getElem!_list l (j - 1) (by omega)] at hne
  rw [getElem!_list l i hil, getElem!_list l j hjl]
  have h1 := hp (j - 1) j (by omega) hjl (by omega)
  have h2 : rk l[i] ≤ rk l[j - 1] := by
    rcases Nat.lt_or_eq_of_le (show i ≤ j - 1 by omega) with e | e
    · exact hp i (j - 1) hil (by omega) e
    · simp only [e]; exact Int.le_refl _
  have h3 : rk l[j] ≠ rk l[j - 1] := fun e => hne (rk_inj e)
  omega
theorem ord_is (l : List Int) : insAll l [] = ordL l := by
  have hs : (sortL l).Pairwise fun x y => rk x ≤ rk y := by
    unfold sortL
    refine (List.pairwise_mergeSort (le := leR) (fun a b c h1 h2 => ?_) (fun a b => ?_) l).imp (fun h => of_decide_eq_true h)
    · exact decide_eq_true (Int.le_trans (of_decide_eq_true h1) (of_decide_eq_true h2))
    · unfold leR
      rcases Int.le_total (rk a) (rk b) with h | h
      · rw [decide_eq_true h, Bool.true_or]
      · rw [decide_eq_true h, Bool.or_true]
  refine ss_ext (insAll_ss l [] List.Pairwise.nil) (compact_ss _ hs) (fun x => ?_)
  show x ∈ insAll l [] ↔ x ∈ Go.Lib.compact (l.mergeSort leR)
  rw [insAll_mem, compact_mem, (List.mergeSort_perm l leR).mem_iff]
  simp
theorem ord_mem (l : List Int) (x : Int) : x ∈ ordL l ↔ x ∈ l := by rw [← ord_is, insAll_mem]; simp
theorem ord_ss (l : List Int) : SS (ordL l) := by rw [← ord_is]; exact insAll_ss l [] List.Pairwise.nil
theorem insAll_len : ∀ (l o : List Int), (insAll l o).length ≤ l.length + o.length
  | [], o => by rw [insAll]; simp
  | c :: r, o => by
    rw [insAll]
    have := insAll_len r (insR c o)
    have := insR_len c o
    simp only [List.length_cons]
    omega
theorem ord_len (l : List Int) : (ordL l).length ≤ l.length := by rw [← ord_is]; simpa using insAll_len l []
/-- a literal's opposite stands right behind it -/
theorem opp_is : ∀ l : List Int, SS l → (∀ x ∈ l, inR x ∧ x ≠ 0) → oppB l = l.any fun x => l.contains (-x)
  | [], _, _ => rfl
  | [x], _, h => by
    have := (h x List.mem_cons_self).2
    have e : ¬ x = -x := by omega
    simp [oppB]
    omega
  | x :: y :: r, hs, h => by
    have h1 := List.pairwise_cons.1 hs
    have h2 := List.pairwise_cons.1 h1.2
    have ih := opp_is (y :: r) h1.2 (fun z hz => h z (List.mem_cons_of_mem _ hz))
    rw [oppB, ih]
    have hx := h x List.mem_cons_self
    have hxy := h1.1 y List.mem_cons_self
    have hx0 := hx.2
    -- an opposite of x further on is y
    have key : ∀ z ∈ y :: r, z = -x → y = -x := by
      intro z hz e
      rcases List.mem_cons.1 hz with q | q
      · rw [← q]; exact e
      · exfalso
        have a := h2.1 z q
        have y0 := (h y (List.mem_cons_of_mem _ List.mem_cons_self)).2
        subst e
        unfold rk at hxy a
        split at hxy <;> split at hxy <;> split at a <;> (try split at a) <;> omega
    rw [Bool.eq_iff_iff]
    simp only [Bool.or_eq_true, beq_iff_eq, List.any_eq_true, List.contains_iff_mem]
    constructor
    · rintro (e | ⟨z, hz, hz2⟩)
      · exact ⟨x, List.mem_cons_self, by rw [show -x = y by omega]; exact List.mem_cons_of_mem _ List.mem_cons_self⟩
      · exact ⟨z, List.mem_cons_of_mem _ hz, List.mem_cons_of_mem _ hz2⟩
    · rintro ⟨z, hz, hz2⟩
      rcases List.mem_cons.1 hz with e | e
      · subst e
        rcases List.mem_cons.1 hz2 with e2 | e2
        · exfalso; omega
        · have := key _ e2 rfl
          exact .inl (by omega)
      · rcases List.mem_cons.1 hz2 with e2 | e2
        · have := key z e (by omega)
          exact .inl (by omega)
        · exact .inr ⟨z, e, e2⟩
theorem idx_has (x : Int) : ∀ (l : List Int) (i : Nat), decide (0 ≤ idxL x l i) = l.contains x
  | [], i => rfl
  | y :: r, i => by
    rw [idxL, List.contains_cons]
    by_cases e : x = y
    · subst e
      rw [if_pos rfl, decide_eq_true (by omega)]
      simp
    · rw [if_neg e, idx_has x r (i + 1)]
      simp [e]
theorem taut_is {l : List Int} (hs : SS l) (h : ∀ x ∈ l, inR x ∧ x ≠ 0) : tautL l = oppB l := by
  rw [opp_is l hs h]
  unfold tautL
  rw [Bool.eq_iff_iff]
  simp only [List.any_eq_true]
  constructor
  · rintro ⟨x, hx, h1⟩
    have hb := (h x hx).1
    unfold inR at hb
    rw [w64 (by omega) (by omega), idx_has] at h1
    exact ⟨x, hx, h1⟩
  · rintro ⟨x, hx, h1⟩
    have hb := (h x hx).1
    unfold inR at hb
    refine ⟨x, hx, ?_⟩
    rw [w64 (by omega) (by omega), idx_has]
    exact h1
/-- the literals other than one, one behind the other -/
theorem has_is (c : List Int) (x : Int) (hc : c.length * 8 ≤ 140737488351232) : Ev (fun k => spec_l01Has.f k c x) (decide (0 ≤ idxL x c 0)) := by
  have key : ∀ (d i : Nat), i + d = c.length → Ev (fun k => spec_l01Has.l0 k c x (i : Int)) (decide (0 ≤ idxL x (c.drop i) i)) := by
    intro d
    induction d with
    | zero =>
      intro i hi
      obtain rfl : i = c.length := by omega
      rw [List.drop_length]
      exact stp (fun k => spec_l01Has.l0.eq_2 ..) (ifn (by omega) (sm _))
    | succ d ih =>
      intro i hi
      have hlt : i < c.length := by omega
      have := ih (i + 1) (by omega)
      rw [show ((i + 1 : Nat) : Int) = (i : Int) + 1 by omega] at this
      have e : rd c (i : Int) = c[i] := by unfold rd; simp [List.getD, hlt]
      rw [List.drop_eq_getElem_cons hlt, idxL]
      refine stp (fun k => spec_l01Has.l0.eq_2 ..) (ifp (by omega) (ifp (by omega) ?_))
      rw [e, up (by omega) (by omega : (i : Int) < (c.length : Int)) (by omega)]
      by_cases h : x = c[i]
      · rw [if_pos h, decide_eq_true (by omega)]
        exact ifp h.symm (sm _)
      · rw [if_neg h]
        exact ifn (fun q => h q.symm) this
  have := key c.length 0 (by omega)
  rw [List.drop_zero] at this
  exact evc (fun k => spec_l01Has.f.eq_1 ..) this
theorem l1_is (b : List Int) (v : Int) (hb : b.length ≤ 4096) (r : List Int × Int) : ∀ (d i : Nat) (out : List Int), i + d = b.length → out.length + d ≤ 100000 → Ev (fun _ => (spec_l01Sorted.f (out ++ (b.drop i).filter fun y => y != wrap64 (-v))).bind fun q => if q.2 = true then some (q.1, 0) else some ([], 8)) r → Ev (fun k => spec_Resolve.l1 k b v out (i : Int)) r := by
  intro d
  induction d with
  | zero =>
    intro i out hi ho h
    obtain rfl : i = b.length := by omega
    rw [List.drop_length, List.filter_nil, List.append_nil] at h
    exact stp (fun k => spec_Resolve.l1.eq_2 ..) (ifn (by omega) h)
  | succ d ih =>
    intro i out hi ho h
    have hlt : i < b.length := by omega
    have e : rd b (i : Int) = b[i] := by unfold rd; simp [List.getD, hlt]
    rw [List.drop_eq_getElem_cons hlt, List.filter_cons] at h
    refine stp (fun k => spec_Resolve.l1.eq_2 ..) (ifp (by omega) (ifp (by omega) ?_))
    rw [e, up (by omega) (by omega : (i : Int) < (b.length : Int)) (by omega)]
    by_cases c : b[i] = wrap64 (-v)
    · have q : (b[i] != wrap64 (-v)) = false := by rw [c]; simp
      rw [q, if_neg Bool.false_ne_true] at h
      exact ifp c (ih (i + 1) out (by omega) (by omega) h)
    · have q : (b[i] != wrap64 (-v)) = true := bne_iff_ne.2 c
      rw [q, if_pos rfl, List.append_cons] at h
      exact ifn c (ifp (by omega) (ih (i + 1) (out ++ [b[i]]) (by omega) (by simp; omega) h))
theorem l0_is (a b : List Int) (v : Int) (ha : a.length ≤ 4096) (hb : b.length ≤ 4096) (r : List Int × Int) : ∀ (d i : Nat) (out : List Int), i + d = a.length → out.length + d ≤ 50000 → Ev (fun _ => (spec_l01Sorted.f ((out ++ (a.drop i).filter fun y => y != v) ++ b.filter fun y => y != wrap64 (-v))).bind fun q => if q.2 = true then some (q.1, 0) else some ([], 8)) r → Ev (fun k => spec_Resolve.l0 k a b v out (i : Int)) r := by
  intro d
  induction d with
  | zero =>
    intro i out hi ho h
    obtain rfl : i = a.length := by omega
    rw [List.drop_length, List.filter_nil, List.append_nil] at h
    exact stp (fun k => spec_Resolve.l0.eq_2 ..) (ifn (by omega) (l1_is b v hb r b.length 0 out (by omega) (by omega) (by rw [List.drop_zero]; exact h)))
  | succ d ih =>
    intro i out hi ho h
    have hlt : i < a.length := by omega
    have e : rd a (i : Int) = a[i] := by unfold rd; simp [List.getD, hlt]
    rw [List.drop_eq_getElem_cons hlt, List.filter_cons] at h
    refine stp (fun k => spec_Resolve.l0.eq_2 ..) (ifp (by omega) (ifp (by omega) ?_))
    rw [e, up (by omega) (by omega : (i : Int) < (a.length : Int)) (by omega)]
    by_cases c : a[i] = v
    · have q : (a[i] != v) = false := by rw [c]; simp
      rw [q, if_neg Bool.false_ne_true] at h
      exact ifp c (ih (i + 1) out (by omega) (by omega) h)
    · have q : (a[i] != v) = true := bne_iff_ne.2 c
      rw [q, if_pos rfl, List.append_cons] at h
      exact ifn c (ifp (by omega) (ih (i + 1) (out ++ [a[i]]) (by omega) (by simp; omega) h))
theorem clause_in {c : List Int} (h : clauseB c 40 = true) : c.length ≤ 12 ∧ ∀ x ∈ c, inR x ∧ x ≠ 0 := by
  unfold clauseB at h
  rw [Bool.and_eq_true] at h
  refine ⟨of_decide_eq_true h.1, fun x hx => ?_⟩
  have h2 := h.2
  rw [Bool.not_eq_true', List.any_eq_false] at h2
  have h3 := h2 x hx
  unfold litB at h3
  simp at h3
  rw [w64 (x := -40) (by omega) (by omega)] at h3
  unfold inR
  omega
theorem both (a b : List Int) (v : Int) (ha : a.length * 8 ≤ 140737488351232) (hb : b.length * 8 ≤ 140737488351232) : ∃ r : List Int × Int, Ev (fun k => spec_Resolve.f k a b v) r ∧ impl_Resolve.f a b v = some r ∧ r.1.length ≤ 4096 := by
  unfold impl_Resolve.f
  by_cases h1 : (a.length : Int) > 4096
  · rw [if_pos (Or.inl h1)]
    exact ⟨_, evc (fun k => spec_Resolve.f.eq_1 ..) (ifp h1 (stp (fun k => spec_Resolve.j0.eq_2 ..) (ifp rfl (sm _)))), rfl, by simp⟩
  by_cases h2 : (b.length : Int) > 4096
  · rw [if_pos (Or.inr h2)]
    exact ⟨_, evc (fun k => spec_Resolve.f.eq_1 ..) (ifn h1 (stp (fun k => spec_Resolve.j0.eq_2 ..) (ifp (decide_eq_true h2) (sm _)))), rfl, by simp⟩
  rw [if_neg (fun h_ => h_.elim h1 h2)]
  have start : ∀ r, Ev (fun k => (spec_l01Clause.f k a 40).bind fun t121 => (if t121 = true then ((spec_l01Clause.f k b 40).bind fun t122 => (if t122 = true then ((spec_l01In.f v 1 40).bind fun t123 => (spec_Resolve.j1 k a b v (!t123))) else (spec_Resolve.j1 k a b v true))) else (spec_Resolve.j1 k a b v true))) r → Ev (fun k => spec_Resolve.f k a b v) r := fun r h =>
    evc (fun k => spec_Resolve.f.eq_1 ..) (ifn h1 (stp (fun k => spec_Resolve.j0.eq_2 ..) (ifn (by rw [decide_eq_false h2]; exact Bool.false_ne_true) h)))
  have bad : Ev (fun k => spec_Resolve.j1 k a b v true) (([] : List Int), (1 : Int)) := stp (fun k => spec_Resolve.j1.eq_2 ..) (ifp rfl (sm _))
  have ca := specClause_is a 40 ha
  have cb := specClause_is b 40 hb
  cases xa : clauseB a 40 with
  | false =>
    rw [if_pos (Or.inl rfl)]
    rw [xa] at ca
    exact ⟨_, start _ (bnd ca (ifn Bool.false_ne_true bad)), rfl, by simp⟩
  | true =>
  rw [xa] at ca
  cases xb : clauseB b 40 with
  | false =>
    rw [if_pos (Or.inr (Or.inl rfl))]
    rw [xb] at cb
    exact ⟨_, start _ (bnd ca (ifp rfl (bnd cb (ifn Bool.false_ne_true bad)))), rfl, by simp⟩
  | true =>
  rw [xb] at cb
  by_cases hv : 1 ≤ v ∧ v ≤ 40
  rotate_left
  · rw [if_pos (Or.inr (Or.inr hv))]
    have e : (decide (1 ≤ v) && decide (v ≤ 40)) = false := by
      rw [Bool.eq_false_iff]
      intro q
      rw [Bool.and_eq_true] at q
      exact hv ⟨of_decide_eq_true q.1, of_decide_eq_true q.2⟩
    exact ⟨_, start _ (bnd ca (ifp rfl (bnd cb (ifp rfl (bnd0 (in_is v 1 40) (by rw [e]; exact bad)))))), rfl, by simp⟩
  have hw : wrap64 (-v) = -v := w64 (by omega) (by omega)
  rw [if_neg (by simp; omega)]
  have e : (decide (1 ≤ v) && decide (v ≤ 40)) = true := by rw [decide_eq_true hv.1, decide_eq_true hv.2]; rfl
  have start2 : ∀ r, Ev (fun k => (spec_l01Has.f k a v).bind fun t127 => (if t127 = true then ((spec_l01Has.f k b (wrap64 (-v))).bind fun t128 => (spec_Resolve.j2 k a b v (!t128))) else (spec_Resolve.j2 k a b v true))) r → Ev (fun k => spec_Resolve.f k a b v) r := fun r h =>
    start r (bnd ca (ifp rfl (bnd cb (ifp rfl (bnd0 (in_is v 1 40) (by rw [e]; exact stp (fun k => spec_Resolve.j1.eq_2 ..) (ifn Bool.false_ne_true h)))))))
  have bad2 : Ev (fun k => spec_Resolve.j2 k a b v true) (([] : List Int), (6 : Int)) := stp (fun k => spec_Resolve.j2.eq_2 ..) (ifp rfl (sm _))
  have ga := has_is a v ha
  have gb := has_is b (-v) hb
  by_cases ya : 0 ≤ idxL v a 0
  rotate_left
  · rw [if_pos (Or.inl ya)]
    rw [decide_eq_false ya] at ga
    exact ⟨_, start2 _ (bnd ga (ifn Bool.false_ne_true bad2)), rfl, by simp⟩
  rw [decide_eq_true ya] at ga
  by_cases yb : 0 ≤ idxL (-v) b 0
  rotate_left
  · rw [if_pos (Or.inr yb)]
    rw [decide_eq_false yb] at gb
    exact ⟨_, start2 _ (bnd ga (ifp rfl (by rw [hw]; exact bnd gb bad2))), rfl, by simp⟩
  rw [decide_eq_true yb] at gb
  rw [if_neg (fun h_ => h_.elim (fun q => q ya) (fun q => q yb))]
  obtain ⟨la, ra⟩ := clause_in xa
  obtain ⟨lb, rb⟩ := clause_in xb
  obtain ⟨m, hm⟩ : ∃ m, (a.filter fun y => y != v) ++ (b.filter fun y => y != -v) = m := ⟨_, rfl⟩
  have hml : m.length ≤ 24 := by
    rw [← hm, List.length_append]
    have := List.length_filter_le (fun y => y != v) a
    have := List.length_filter_le (fun y => y != -v) b
    omega
  have hmi : ∀ x ∈ m, inR x ∧ x ≠ 0 := by
    intro x hx
    rw [← hm, List.mem_append] at hx
    rcases hx with h | h
    · exact ra x (List.mem_filter.1 h).1
    · exact rb x (List.mem_filter.1 h).1
  have hcond : m.length ≤ 4096 ∧ ∀ x ∈ m, inR x := ⟨by omega, fun x hx => (hmi x hx).1⟩
  have hS : spec_l01Sorted.f m = some (ordL m, !(tautL (ordL m))) := by
    unfold spec_l01Sorted.f
    rw [if_pos hcond, ord_is, taut_is (ord_ss m) (fun x hx => hmi x ((ord_mem m x).1 hx))]
  have hI : impl_inOrder.f m = some (ordL m) := by unfold impl_inOrder.f; rw [if_pos hcond]
  rw [hm, hI, Option.bind_some]
  have go : ∀ r, Ev (fun _ => (spec_l01Sorted.f m).bind fun q => if q.2 = true then some (q.1, 0) else some ([], 8)) r → Ev (fun k => spec_Resolve.f k a b v) r := fun r h =>
    start2 r (bnd ga (ifp rfl (by
      rw [hw]
      refine bnd gb (stp (fun k => spec_Resolve.j2.eq_2 ..) (ifn Bool.false_ne_true (l0_is a b v (by omega) (by omega) r a.length 0 [] (by omega) (by simp; omega) ?_)))
      rw [List.drop_zero, List.nil_append, hw, hm]
      exact h)))
  have hol := ord_len m
  cases ht : tautL (ordL m) with
  | true => exact ⟨_, go _ (by rw [hS, Option.bind_some, ht]; exact sm _), rfl, by simp⟩
  | false => exact ⟨_, go _ (by rw [hS, Option.bind_some, ht]; exact sm _), rfl, by show (ordL m).length ≤ _; omega⟩

theorem FnExactResolve : laws_FnExactResolve.Pure := by
  intro a b v ha hb hv
  refine Ev.rounds ?_
  refine evc (fun k => laws_FnExactResolve.f.eq_1 ..) ?_
  have hal := ha.1
  have hbl := hb.1
  by_cases h1 : (a.length : Int) > 1048576
  · exact ifp h1 (sm _)
  by_cases h2 : (b.length : Int) > 1048576
  · exact ifn h1 (ifp h2 (sm _))
  obtain ⟨r, hr1, hr2, hrl⟩ := both a b v hal hbl
  have ta := toI_is a (by omega)
  have tb := toI_is b (by omega)
  obtain ⟨ma, -, -, ma3⟩ := markN_is a 1 (by omega) (by omega)
  obtain ⟨mb, -, -, mb3⟩ := markN_is b (1 + (a.length : Int)) (by omega) (by omega)
  obtain ⟨m, m1, m2, m3⟩ := markN_is r.1 1 (by omega) (by omega)
  have hh := heldN_is m 1 (by omega) (by omega) m2
  rw [m1] at hh
  have er := eqI_self r.1 (by omega)
  have hn : (r.2 != r.2) = false := by simp
  refine ifn h1 (ifn h2 (bnd ta (bnd tb (bnd hr1 (bnd ta (bnd tb (bnd0 hr2 (bnd er (ifp rfl ?_)))))))))
  rw [hn]
  refine stp (fun k => laws_FnExactResolve.j0.eq_2 ..) (ifn Bool.false_ne_true (bnd ta (bnd (eqI_self a (by omega)) (ifp rfl (bnd tb (bnd (eqI_self b (by omega)) (ifp rfl (bnd ma3 (bnd mb3 (ifn (by show ¬ (1 + (a.length : Int)) + (b.length : Int) < 0; omega) (bnd er (ifp rfl ?_))))))))))))
  rw [hn]
  refine stp (fun k => laws_FnExactResolve.j1.eq_2 ..) (ifn Bool.false_ne_true (bnd m3 (bnd hh (ifn (by omega) (ifp rfl (bnd ta (bnd tb (bnd0 hr2 (bnd er (ifp rfl ?_))))))))))
  rw [hn]
  exact stp (fun k => laws_FnExactResolve.j2.eq_2 ..) (ifn Bool.false_ne_true (bnd hh (ifn (by omega) (ifp rfl (sm _)))))

end Go.Proofs.Ytelfahcjeldliaa.Pure
