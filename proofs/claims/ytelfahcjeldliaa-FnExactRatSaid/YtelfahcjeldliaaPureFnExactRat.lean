/- FnExactRat: the pure statement behind the law: the program tells whether a clause is RAT as the reference does. No conditions. -/
import Derived.Test.YtelfahcjeldliaaDefFnExactRat
import Derived.Test.YtelfahcjeldliaaPlain
set_option linter.unusedVariables false
set_option linter.unusedSimpArgs false
namespace Go.Proofs.Ytelfahcjeldliaa.Pure
open Go.RowKit Go.Proofs.Ytelfahcjeldliaa Go.Proofs.Ytelfahcjeldliaa.PFnExactRat Go.Proofs.YtelfahcjeldliaaW.PrintWords Go.Proofs.YtelfahcjeldliaaW.PrintLast Go.Proofs.YtelfahcjeldliaaW.PrintMore Go.Proofs.Ytelfahcjeldliaa.Plain

theorem in_is (x lo hi : Int) : spec_l01In.f x lo hi = some (decide (lo ≤ x) && decide (x ≤ hi)) := by
  unfold spec_l01In.f
  by_cases h : x ≥ lo
  · rw [if_pos h, decide_eq_true h, Bool.true_and]
  · rw [if_neg h, decide_eq_false h, Bool.false_and]
/-- what is left when a list is counted -/
def szI (left : Int) (c : List Int) : Int := if left - (c.length : Int) < 0 then -1 else left - (c.length : Int)
theorem szI_le (left : Int) (c : List Int) (h : 0 ≤ left) : szI left c ≤ left := by unfold szI; split <;> omega
theorem szI_neg (left : Int) (c : List Int) (h : szI left c < 0) : szI left c = -1 := by unfold szI at *; split at h <;> simp_all <;> omega
theorem szI_is (c : List Int) (left : Int) (h0 : 0 ≤ left) (h1 : left ≤ 1048576) (hc : c.length ≤ 140737488351232) : laws_szIntS.f c left = some (szI left c) := by
  unfold laws_szIntS.f szI
  rw [w64 (by omega) (by omega)]
  by_cases h : left - (c.length : Int) < 0
  · rw [if_pos h, if_pos h]
  · rw [if_neg h, if_neg h]
theorem toI_is (l : List Int) (hl : l.length ≤ 35184372088832) : Ev (fun k => laws_toIntS.f k l) l := by
  refine evc (fun k => laws_toIntS.f.eq_1 ..) (ifp (by omega) (ifp (by omega) ?_))
  have := copy (fun x : Int => x) l (fun i out k => laws_toIntS.l0 k l out i) ?_ ?_ (List.replicate (l.length : Int).toNat 0) (by simp)
  · simpa using this
  · intro out
    exact stp (fun k => laws_toIntS.l0.eq_2 ..) (ifn (by omega) (sm _))
  · intro i out r x hx hlen hk
    have hi : i < l.length := (List.getElem?_eq_some_iff.1 hx).1
    refine stp (fun k => laws_toIntS.l0.eq_2 ..) (ifp (by omega) (ifp (by omega) (ifp (by omega) ?_)))
    rw [show rd l (i : Int) = x from getD_some hx, up (by omega) (by omega : (i : Int) < (l.length : Int)) (by omega), Int.toNat_natCast]
    exact hk
theorem eqI_self (l : List Int) (hl : l.length ≤ 140737488351232) : Ev (fun k => laws_eqIntS.f k l l) true := by
  refine evc (fun k => laws_eqIntS.f.eq_1 ..) (ifp rfl ?_)
  refine same l (fun i k => laws_eqIntS.l0 k l l i) ?_ ?_
  · exact stp (fun k => laws_eqIntS.l0.eq_2 ..) (ifn (by omega) (sm _))
  · intro i x hx hk
    have hi : i < l.length := (List.getElem?_eq_some_iff.1 hx).1
    refine stp (fun k => laws_eqIntS.l0.eq_2 ..) (ifp (by omega) (ifp (by omega) (ifp (by omega) (ifp rfl ?_))))
    rw [up (by omega) (by omega : (i : Int) < (l.length : Int)) (by omega)]
    exact hk
/-- rows of numbers within the reach -/
abbrev RowsOK (l : List (List Int)) : Prop := Reads.WFL 24 (Reads.WFL 8 Reads.WFI) l
theorem rows_len {l : List (List Int)} (h : RowsOK l) : l.length * 24 ≤ 140737488351232 := h.1
theorem row_len {l : List (List Int)} (h : RowsOK l) {i : Nat} {c : List Int} (hc : l[i]? = some c) : c.length * 8 ≤ 140737488351232 := (h.2 c (List.mem_of_getElem? hc)).1
theorem row_num {l : List (List Int)} (h : RowsOK l) {c : List Int} (hc : c ∈ l) {x : Int} (hx : x ∈ c) : -9223372036854775808 ≤ x ∧ x ≤ 9223372036854775807 := (h.2 c hc).2 x hx
theorem szSS_is (l : List (List Int)) (h : RowsOK l) (left : Int) (h0 : 0 ≤ left) (h1 : left ≤ 1048576) : ∃ v : Int, v ≤ 1048576 ∧ Ev (fun k => laws_szIntSS.f k l left) v := by
  have hl := rows_len h
  by_cases hs : left - (l.length : Int) < 0
  · exact ⟨-1, by omega, evc (fun k => laws_szIntSS.f.eq_1 ..) (ifp (by rw [w64 (by omega) (by omega)]; exact hs) (sm _))⟩
  · have key : ∀ (d i : Nat) (lf : Int), i + d = l.length → 0 ≤ lf → lf ≤ 1048576 → ∃ v : Int, v ≤ 1048576 ∧ Ev (fun k => laws_szIntSS.l0 k l lf (i : Int)) v := by
      intro d
      induction d with
      | zero =>
        intro i lf hi hf0 hf1
        exact ⟨lf, hf1, stp (fun k => laws_szIntSS.l0.eq_2 ..) (ifn (by omega) (sm _))⟩
      | succ d ih =>
        intro i lf hi hf0 hf1
        have hil : i < l.length := by omega
        have hx : l[i]? = some l[i] := List.getElem?_eq_getElem hil
        have hlen := row_len h hx
        have hsz := szI_is l[i] lf hf0 hf1 (by omega)
        by_cases hn : szI lf l[i] < 0
        · refine ⟨-1, by omega, stp (fun k => laws_szIntSS.l0.eq_2 ..) (ifp (by omega) (ifp (by omega) ?_))⟩
          rw [show rd_L1 l (i : Int) = l[i] from getD_some hx]
          exact bnd0 hsz (ifp hn (sm _))
        · obtain ⟨v, hv, hev⟩ := ih (i + 1) (szI lf l[i]) (by omega) (by omega) (by have := szI_le lf l[i] hf0; omega)
          rw [show ((i + 1 : Nat) : Int) = (i : Int) + 1 by omega] at hev
          refine ⟨v, hv, stp (fun k => laws_szIntSS.l0.eq_2 ..) (ifp (by omega) (ifp (by omega) ?_))⟩
          rw [show rd_L1 l (i : Int) = l[i] from getD_some hx, up (by omega) (by omega : (i : Int) < (l.length : Int)) (by omega)]
          exact bnd0 hsz (ifn hn hev)
    obtain ⟨v, hv, hev⟩ := key l.length 0 (left - (l.length : Int)) (by omega) (by omega) (by omega)
    refine ⟨v, hv, evc (fun k => laws_szIntSS.f.eq_1 ..) (ifn (by rw [w64 (by omega) (by omega)]; exact hs) ?_)⟩
    rw [w64 (by omega) (by omega)]
    exact hev
theorem szCnf_is (a : Int) (l : List (List Int)) (h : RowsOK l) (left : Int) (h0 : 0 ≤ left) (h1 : left ≤ 1048576) : ∃ v : Int, v ≤ 1048576 ∧ Ev (fun k => laws_szCnf.f k a l left) v := by
  obtain ⟨v, hv, hev⟩ := szSS_is l h left h0 h1
  by_cases hn : v < 0
  · exact ⟨-1, by omega, bnd hev (ifp hn (sm _))⟩
  · exact ⟨v, hv, bnd hev (ifn hn (sm _))⟩
theorem toSS_is (l : List (List Int)) (h : RowsOK l) : Ev (fun k => laws_toIntSS.f k l) l := by
  have hl := rows_len h
  refine evc (fun k => laws_toIntSS.f.eq_1 ..) (ifp (by omega) (ifp (by omega) ?_))
  have := copy (fun x : List Int => x) l (fun i out k => laws_toIntSS.l0 k l out i) ?_ ?_ (List.replicate (l.length : Int).toNat []) (by simp)
  · simpa using this
  · intro out
    exact stp (fun k => laws_toIntSS.l0.eq_2 ..) (ifn (by omega) (sm _))
  · intro i out r x hx hlen hk
    have hi : i < l.length := (List.getElem?_eq_some_iff.1 hx).1
    have hxl := row_len h hx
    refine stp (fun k => laws_toIntSS.l0.eq_2 ..) (ifp (by omega) (ifp (by omega) ?_))
    rw [show rd_L1 l (i : Int) = x from getD_some hx, up (by omega) (by omega : (i : Int) < (l.length : Int)) (by omega), Int.toNat_natCast]
    exact bnd (toI_is x (by omega)) (ifp (by omega) hk)
theorem toCnf_is (a : Int) (l : List (List Int)) (h : RowsOK l) : Ev (fun k => laws_toCnf.f k a l) (a, l) := bnd (toSS_is l h) (sm _)
theorem eqSS_self (l : List (List Int)) (h : RowsOK l) : Ev (fun k => laws_eqIntSS.f k l l) true := by
  have hl := rows_len h
  refine evc (fun k => laws_eqIntSS.f.eq_1 ..) (ifp rfl ?_)
  refine same l (fun i k => laws_eqIntSS.l0 k l l i) ?_ ?_
  · exact stp (fun k => laws_eqIntSS.l0.eq_2 ..) (ifn (by omega) (sm _))
  · intro i x hx hk
    have hi : i < l.length := (List.getElem?_eq_some_iff.1 hx).1
    have hxl := row_len h hx
    refine stp (fun k => laws_eqIntSS.l0.eq_2 ..) (ifp (by omega) (ifp (by omega) (ifp (by omega) ?_)))
    rw [show rd_L1 l (i : Int) = x from getD_some hx, up (by omega) (by omega : (i : Int) < (l.length : Int)) (by omega)]
    exact bnd (eqI_self x (by omega)) (ifp rfl hk)
theorem eqCnf_self (a : Int) (l : List (List Int)) (h : RowsOK l) : Ev (fun k => laws_eqCnf.f k a l a l) true :=
  evc (fun k => laws_eqCnf.f.eq_1 ..) (ifp rfl (bnd (eqSS_self l h) (ifp rfl (sm _))))

theorem specClause_is (c : List Int) (vars : Int) (hc : c.length * 8 ≤ 140737488351232) : Ev (fun k => spec_l01Clause.f k c vars) (clauseB c vars) := by
  unfold clauseB
  rw [not_any_not c (fun x => litB x vars)]
  refine evc (fun k => spec_l01Clause.f.eq_1 ..) ?_
  by_cases h : c.length ≤ 12
  · rw [decide_eq_true h, Bool.true_and]
    refine ifn (by omega) ?_
    refine allL c (fun x => litB x vars) (fun i k => spec_l01Clause.l0 k c vars i) ?_ ?_
    · exact stp (fun k => spec_l01Clause.l0.eq_2 ..) (ifn (by omega) (sm _))
    · intro i x r hx hk
      have hi : i < c.length := (List.getElem?_eq_some_iff.1 hx).1
      refine stp (fun k => spec_l01Clause.l0.eq_2 ..) (ifp (by omega) (ifp (by omega) ?_))
      rw [show rd c (i : Int) = x from getD_some hx, up (by omega) (by omega : (i : Int) < (c.length : Int)) (by omega)]
      unfold litB
      by_cases hz : x = 0
      · refine ifp hz ?_
        rw [decide_eq_false (by simpa using hz)]
        exact sm _
      · refine ifn hz (bnd0 (in_is _ _ _) ?_)
        rw [decide_eq_true hz, Bool.true_and]
        cases hb : decide (wrap64 (-vars) ≤ x) && decide (x ≤ vars) with
        | true => exact ifp rfl (by simpa using hk)
        | false => exact ifn (by simp) (sm _)
  · rw [decide_eq_false h, Bool.false_and]
    exact ifp (by omega) (sm _)
theorem specCnf_is (a : Int) (l : List (List Int)) (h : RowsOK l) : Ev (fun k => spec_CnfOK.f k a l) (cnfB a l) := by
  have hl := rows_len h
  unfold cnfB
  rw [not_any_not l (fun c => clauseB c a), ← Bool.and_assoc]
  refine bnd0 (in_is _ _ _) ?_
  cases h1 : decide (0 ≤ a) && decide (a ≤ 40) with
  | false =>
    rw [Bool.false_and]
    exact ifn (by simp) (stp (fun k => spec_CnfOK.j0.eq_2 ..) (ifp rfl (sm _)))
  | true =>
    rw [Bool.true_and]
    refine ifp rfl (stp (fun k => spec_CnfOK.j0.eq_2 ..) ?_)
    by_cases h2 : l.length ≤ 300
    · rw [decide_eq_true h2, Bool.true_and]
      refine ifn (by simp; omega) ?_
      refine allL l (fun c => clauseB c a) (fun i k => spec_CnfOK.l0 k i a l) ?_ ?_
      · exact stp (fun k => spec_CnfOK.l0.eq_2 ..) (ifn (by omega) (sm _))
      · intro i x r hx hk
        have hi : i < l.length := (List.getElem?_eq_some_iff.1 hx).1
        have hxl := row_len h hx
        refine stp (fun k => spec_CnfOK.l0.eq_2 ..) (ifp (by omega) (ifp (by omega) ?_))
        rw [show rd_L1 l (i : Int) = x from getD_some hx, up (by omega) (by omega : (i : Int) < (l.length : Int)) (by omega)]
        refine bnd (specClause_is x a hxl) ?_
        cases hb : clauseB x a with
        | true => exact ifp rfl (by simpa using hk)
        | false => exact ifn (by simp) (sm _)
    · rw [decide_eq_false h2, Bool.false_and]
      exact ifp (by simp; omega) (sm _)
/-- values of a state -/
abbrev ValsOK (vals : List Int) : Prop := ∀ v ∈ vals, v = -1 ∨ v = 0 ∨ v = 1
/-- literals that such values tell of -/
abbrev LitsOK (n : Nat) (c : List Int) : Prop := ∀ x ∈ c, x ≠ 0 ∧ x.natAbs < n
theorem lits_fit {n : Nat} {c : List Int} (h : LitsOK n c) : fitL n c = true := List.all_eq_true.2 fun x hx => decide_eq_true (h x hx).2
theorem vals_set {vals : List Int} (h : ValsOK vals) (x : Int) : ValsOK (setL vals x) := by
  intro v hv
  unfold setL at hv
  split at hv
  · rcases List.mem_or_eq_of_mem_set hv with h2 | h2
    · exact h v h2
    · exact .inl h2
  · rcases List.mem_or_eq_of_mem_set hv with h2 | h2
    · exact h v h2
    · exact .inr (.inr h2)
theorem vals_zero (n : Nat) : ValsOK (List.replicate n 0) := fun v hv => .inr (.inl (List.eq_of_mem_replicate hv))
/-- a literal's own value -/
def valL (vals : List Int) (x : Int) : Int := if x < 0 then -(rd vals (x.natAbs : Int)) else rd vals (x.natAbs : Int)
theorem rd_ok {vals : List Int} (h : ValsOK vals) (i : Int) (h0 : 0 ≤ i) (h1 : i < vals.length) : rd vals i = -1 ∨ rd vals i = 0 ∨ rd vals i = 1 := by
  have hi : i.toNat < vals.length := by omega
  have : rd vals i = vals[i.toNat] := by unfold rd; simp [List.getD, hi]
  rw [this]
  exact h _ (List.getElem_mem hi)
theorem isL_val (vals : List Int) (x : Int) : isL vals x = decide (valL vals x = 1) := by
  unfold isL valL
  by_cases h : x < 0
  · rw [if_pos h, if_pos h, show (x.natAbs : Int) = -x by omega, Bool.eq_iff_iff, beq_iff_eq, decide_eq_true_eq]
    omega
  · rw [if_neg h, if_neg h, show (x.natAbs : Int) = x by omega, Bool.eq_iff_iff, beq_iff_eq, decide_eq_true_eq]
theorem isL_neg {vals : List Int} {x : Int} (h0 : x ≠ 0) : isL vals (-x) = decide (valL vals x = -1) := by
  rw [isL_val]
  unfold valL
  rw [show (-x).natAbs = x.natAbs by omega, Bool.eq_iff_iff, decide_eq_true_eq, decide_eq_true_eq]
  by_cases h : x < 0
  · rw [if_neg (by omega), if_pos h]
    omega
  · rw [if_pos (by omega), if_neg h]
    omega
theorem valL_ok {vals : List Int} (h : ValsOK vals) {x : Int} (hx : x.natAbs < vals.length) : valL vals x = -1 ∨ valL vals x = 0 ∨ valL vals x = 1 := by
  have := rd_ok h (x.natAbs : Int) (by omega) (by omega)
  unfold valL
  split <;> omega
/-- what the reference tells of a clause -/
def clS (vals : List Int) : List Int → Int → Int → Bool × Int × Int
  | [], n, one => (false, n, one)
  | x :: r, n, one => if valL vals x = 1 then (true, 0, 0) else if valL vals x = 0 then (if one = x then clS vals r n one else clS vals r (n + 1) x) else clS vals r n one
/-- .. as the program tells it -/
def cvS (q : Bool × Int × Int) : Int × Bool := if q.1 = true then (0, false) else if q.2.1 = 0 then (0, true) else if q.2.1 = 1 then (q.2.2, false) else (0, false)
theorem clS_two (vals : List Int) : ∀ (c : List Int) (n one : Int), 2 ≤ n → cvS (clS vals c n one) = (0, false)
  | [], n, one, h => by
    unfold clS cvS
    rw [if_neg (by simp), if_neg (by simp; omega), if_neg (by simp; omega)]
  | x :: r, n, one, h => by
    unfold clS
    split
    · rfl
    · split
      · split
        · exact clS_two vals r n one h
        · exact clS_two vals r (n + 1) x (by omega)
      · exact clS_two vals r n one h
theorem unit_clS {vals : List Int} (hv : ValsOK vals) : ∀ (c : List Int) (one : Int), LitsOK vals.length c → unitL vals c one = cvS (clS vals c (if one = 0 then 0 else 1) one)
  | [], one, _ => by
    unfold unitL clS cvS
    by_cases h : one = 0
    · subst h; rfl
    · rw [if_neg h, if_neg (by simp), if_neg (by simp), if_pos rfl, beq_eq_false_iff_ne.2 h]
  | x :: r, one, hl => by
    have hx := hl x (by simp)
    have hr : LitsOK vals.length r := fun y hy => hl y (by simp [hy])
    have ih := unit_clS hv r
    unfold unitL clS
    rw [isL_val, isL_neg hx.1]
    rcases valL_ok hv hx.2 with h | h | h
    · rw [h, if_neg (by decide), if_pos (by decide), if_neg (by decide), if_neg (by decide)]
      exact ih one hr
    · rw [h, if_neg (show ¬ (decide ((0 : Int) = 1) = true) by decide), if_neg (show ¬ (decide ((0 : Int) = -1) = true) by decide), if_neg (show ¬ (0 : Int) = 1 by decide), if_pos (show (0 : Int) = 0 from rfl)]
      by_cases hxo : x = one
      · rw [if_pos hxo, if_pos hxo.symm]
        exact ih one hr
      · have hox : ¬ one = x := fun e => hxo e.symm
        rw [if_neg hxo, if_neg hox]
        by_cases h0 : one = 0
        · rw [if_pos h0, if_pos h0]
          have := ih x hr
          rwa [if_neg hx.1] at this
        · rw [if_neg h0, if_neg h0]
          exact (clS_two vals r (1 + 1) x (by omega)).symm
    · rw [h, if_pos (by decide), if_pos rfl]
      rfl
theorem abs_is {x : Int} (h : x.natAbs < 4097) : spec_l01Abs.f x = some (x.natAbs : Int) := by
  unfold spec_l01Abs.f mx
  rw [w64 (by omega) (by omega)]
  split
  · congr 1; omega
  · congr 1; omega
theorem setS_is {vals : List Int} {x : Int} (h0 : x ≠ 0) (h : x.natAbs < vals.length) (hn : vals.length ≤ 4096) : spec_l02Set.f vals x = some (setL vals x) := by
  unfold spec_l02Set.f setL
  rw [w64 (by omega) (by omega)]
  by_cases hx : x > 0
  · rw [if_pos hx, if_pos (by omega), if_pos (by omega), if_neg (by omega)]
  · rw [if_neg hx, if_pos (by omega), if_pos (by omega), if_pos (by omega)]
theorem clause_is (c vals : List Int) (hv : ValsOK vals) (hl : LitsOK vals.length c) (hn : vals.length ≤ 4096) (hc : c.length * 8 ≤ 140737488351232) : Ev (fun k => spec_l02Clause.f k c vals) (clS vals c 0 0) := by
  refine evc (fun k => spec_l02Clause.f.eq_1 ..) ?_
  have key : ∀ (d i : Nat) (n one : Int), i + d = c.length → 0 ≤ n → n ≤ i → Ev (fun k => spec_l02Clause.l0 k c vals n one (i : Int)) (clS vals (c.drop i) n one) := by
    intro d
    induction d with
    | zero =>
      intro i n one hi h0 h1
      obtain rfl : i = c.length := by omega
      rw [List.drop_length, clS]
      exact stp (fun k => spec_l02Clause.l0.eq_2 ..) (ifn (by omega) (sm _))
    | succ d ih =>
      intro i n one hi h0 h1
      have hil : i < c.length := by omega
      have hx := hl c[i] (List.getElem_mem hil)
      have hr : rd c (i : Int) = c[i] := getD_some (List.getElem?_eq_getElem hil)
      have hup : wrap64 ((i : Int) + 1) = ((i + 1 : Nat) : Int) := by rw [up (by omega) (by omega : (i : Int) < (c.length : Int)) (by omega)]; omega
      have hn1 : wrap64 (n + 1) = n + 1 := w64 (by omega) (by omega)
      rw [List.drop_eq_getElem_cons hil, clS]
      have hvo := rd_ok hv (c[i].natAbs : Int) (by omega) (by omega)
      refine stp (fun k => spec_l02Clause.l0.eq_2 ..) (ifp (by omega) (ifp (by omega) ?_))
      rw [hr]
      refine bnd0 (abs_is (by omega)) (ifp (by omega) (ifp (by omega) ?_))
      have fin : Ev (fun k => spec_l02Clause.j1 k c vals n one (i : Int) (valL vals c[i])) (if valL vals c[i] = 1 then (true, 0, 0) else if valL vals c[i] = 0 then (if one = c[i] then clS vals (c.drop (i + 1)) n one else clS vals (c.drop (i + 1)) (n + 1) c[i]) else clS vals (c.drop (i + 1)) n one) := by
        refine stp (fun k => spec_l02Clause.j1.eq_2 ..) ?_
        rw [hup, hn1, hr]
        by_cases e1 : valL vals c[i] = 1
        · rw [if_pos e1]
          exact ifp e1 (sm _)
        · rw [if_neg e1]
          refine ifn e1 ?_
          by_cases e2 : valL vals c[i] = 0
          · rw [if_pos e2]
            refine ifp e2 (ifp (by omega) (ifp (by omega) ?_))
            by_cases e3 : one = c[i]
            · rw [if_pos e3]
              exact ifp e3 (ih (i + 1) n one (by omega) h0 (by omega))
            · rw [if_neg e3]
              exact ifn e3 (ih (i + 1) (n + 1) c[i] (by omega) (by omega) (by omega))
          · rw [if_neg e2]
            exact ifn e2 (ih (i + 1) n one (by omega) h0 (by omega))
      by_cases hneg : c[i] < 0
      · refine ifp hneg ?_
        rw [w64 (by omega) (by omega)]
        have e : valL vals c[i] = -(rd vals (c[i].natAbs : Int)) := by unfold valL; rw [if_pos hneg]
        rw [← e]
        exact fin
      · refine ifn hneg ?_
        have e : valL vals c[i] = rd vals (c[i].natAbs : Int) := by unfold valL; rw [if_neg hneg]
        rw [← e]
        exact fin
  have := key c.length 0 0 0 (by omega) (by omega) (by omega)
  rwa [List.drop_zero] at this
/-- a literal that a clause makes true is a literal without a value -/
theorem unit_open {vals : List Int} (hv : ValsOK vals) : ∀ (c : List Int) (one : Int), LitsOK vals.length c → (one ≠ 0 → one.natAbs < vals.length ∧ valL vals one = 0) → (unitL vals c one).1 ≠ 0 → (unitL vals c one).1.natAbs < vals.length ∧ valL vals (unitL vals c one).1 = 0
  | [], one, _, h1, h => by
    rw [unitL] at h ⊢
    exact h1 h
  | x :: r, one, hl, h1, h => by
    have hx := hl x (by simp)
    have hr : LitsOK vals.length r := fun y hy => hl y (by simp [hy])
    rw [unitL] at h ⊢
    rw [isL_val, isL_neg hx.1] at h ⊢
    rcases valL_ok hv hx.2 with e | e | e
    · rw [e, if_neg (by decide), if_pos (by decide)] at h ⊢
      exact unit_open hv r one hr h1 h
    · rw [e, if_neg (by decide), if_neg (by decide)] at h ⊢
      by_cases hxo : x = one
      · rw [if_pos hxo] at h ⊢
        exact unit_open hv r one hr h1 h
      · rw [if_neg hxo] at h ⊢
        by_cases h0 : one = 0
        · rw [if_pos h0] at h ⊢
          exact unit_open hv r x hr (fun _ => ⟨hx.2, e⟩) h
        · rw [if_neg h0] at h
          exact absurd rfl h
    · rw [e, if_pos (by decide)] at h
      exact absurd rfl h
theorem scan_open {vals : List Int} (hv : ValsOK vals) : ∀ (cs : List (List Int)) (i : Nat) (next : Int), (∀ c ∈ cs, LitsOK vals.length c) → (next ≠ 0 → next.natAbs < vals.length ∧ valL vals next = 0) → (scanL vals cs i next).2 ≠ 0 → (scanL vals cs i next).2.natAbs < vals.length ∧ valL vals (scanL vals cs i next).2 = 0
  | [], i, next, _, h1, h => by
    rw [scanL] at h ⊢
    exact h1 h
  | c :: r, i, next, hl, h1, h => by
    rw [scanL] at h ⊢
    by_cases hf : (unitL vals c 0).2 = true
    · rw [if_pos hf] at h ⊢
      exact h1 h
    · rw [if_neg hf] at h ⊢
      refine scan_open hv r (i + 1) _ (fun c hc => hl c (by simp [hc])) (fun hne => ?_) h
      by_cases h0 : next = 0
      · rw [if_pos h0] at hne ⊢
        exact unit_open hv c 0 (hl c (by simp)) (fun e => absurd rfl e) hne
      · rw [if_neg h0]
        exact h1 h0
theorem count_set {vals : List Int} {x : Int} (h0 : x ≠ 0) (hx : x.natAbs < vals.length) (hz : valL vals x = 0) : (setL vals x).count 0 + 1 = vals.count 0 := by
  have hr : vals[x.natAbs] = 0 := by
    have : rd vals (x.natAbs : Int) = vals[x.natAbs] := getD_some (List.getElem?_eq_getElem hx)
    unfold valL at hz
    rw [← this]
    split at hz <;> omega
  have hpos : 0 < vals.count 0 := List.count_pos_iff.2 (hr ▸ List.getElem_mem hx)
  unfold setL
  by_cases h : x < 0
  · rw [if_pos h, show (-x).toNat = x.natAbs by omega, List.count_set hx]
    simp [hr]
    omega
  · rw [if_neg h, show x.toNat = x.natAbs by omega, List.count_set hx]
    simp [hr]
    omega
/-- the reference's round -/
theorem round_is (cs : List (List Int)) (vals list : List Int) (hv : ValsOK vals) (hn : vals.length ≤ 4096) (hc : ∀ c ∈ cs, LitsOK vals.length c ∧ c.length * 8 ≤ 140737488351232) (hlen : cs.length * 24 ≤ 140737488351232) (r : List Int × Int × List Int)
    (hcon : ∀ next, scanL vals cs 0 0 = (none, next) → Ev (fun k => if next = 0 then some (list, (-1 : Int), vals) else (spec_l02Set.f vals next).bind fun t => if list.length < 17592186044416 then spec_l02Run.l0 k cs t (list ++ [next]) else none) r)
    (hhit : ∀ i next, scanL vals cs 0 0 = (some i, next) → r = (list, (i : Int), vals)) : Ev (fun k => spec_l02Run.l0 k cs vals list) r := by
  refine stp (fun k => spec_l02Run.l0.eq_2 ..) ?_
  have key : ∀ (d i : Nat) (next : Int), i + d = cs.length → scanL vals (cs.drop i) i next = scanL vals cs 0 0 → Ev (fun k => spec_l02Run.l1 k cs vals list next (i : Int)) r := by
    intro d
    induction d with
    | zero =>
      intro i next hi hs
      obtain rfl : i = cs.length := by omega
      rw [List.drop_length, scanL] at hs
      refine stp (fun k => spec_l02Run.l1.eq_2 ..) (ifn (by omega) ?_)
      exact hcon next hs.symm
    | succ d ih =>
      intro i next hi hs
      have hil : i < cs.length := by omega
      have hx := hc cs[i] (List.getElem_mem hil)
      have hr : rd_L1 cs (i : Int) = cs[i] := getD_some (List.getElem?_eq_getElem hil)
      have hup : wrap64 ((i : Int) + 1) = ((i + 1 : Nat) : Int) := by rw [up (by omega) (by omega : (i : Int) < (cs.length : Int)) (by omega)]; omega
      rw [List.drop_eq_getElem_cons hil, scanL] at hs
      have hu := unit_clS hv cs[i] 0 hx.1
      rw [if_pos rfl] at hu
      rw [hu] at hs
      refine stp (fun k => spec_l02Run.l1.eq_2 ..) (ifp (by omega) (ifp (by omega) ?_))
      rw [hr, hup]
      refine bnd (clause_is cs[i] vals hv hx.1 hn hx.2) ?_
      generalize clS vals cs[i] 0 0 = q at hs ⊢
      obtain ⟨q0, q1, q2⟩ := q
      unfold cvS at hs
      simp only at hs ⊢
      cases q0 with
      | true =>
        refine ifp rfl (ih (i + 1) next (by omega) ?_)
        rw [if_pos rfl] at hs
        simp only [Bool.false_eq_true, if_false] at hs
        by_cases h0 : next = 0
        · rw [if_pos h0] at hs
          rw [h0]
          exact hs
        · rw [if_neg h0] at hs
          exact hs
      | false =>
        rw [if_neg (show ¬ (false = true) by decide)] at hs
        refine ifn (by simp) ?_
        by_cases h1 : q1 = 0
        · rw [if_pos h1, if_pos rfl] at hs
          rw [hhit i next hs.symm]
          exact ifp h1 (sm _)
        · rw [if_neg h1] at hs
          refine ifn h1 ?_
          by_cases h2 : q1 = 1
          · rw [if_pos h2] at hs
            simp only [Bool.false_eq_true, if_false] at hs
            refine ifp h2 ?_
            by_cases h0 : next = 0
            · rw [if_pos h0] at hs
              exact ifp h0 (ih (i + 1) q2 (by omega) hs)
            · rw [if_neg h0] at hs
              exact ifn h0 (ih (i + 1) next (by omega) hs)
          · rw [if_neg h2] at hs
            simp only [Bool.false_eq_true, if_false] at hs
            refine ifn h2 (ih (i + 1) next (by omega) ?_)
            by_cases h0 : next = 0
            · rw [if_pos h0] at hs
              rw [h0]
              exact hs
            · rw [if_neg h0] at hs
              exact hs
  exact key cs.length 0 0 (by omega) (by rw [List.drop_zero])
theorem scan_none_ {vals : List Int} : ∀ (cs : List (List Int)) (i : Nat) (next : Int), (scanL vals cs i next).1 = none → ∀ c ∈ cs, (unitL vals c 0).2 = false
  | [], _, _, _, c, hc => by cases hc
  | a :: r, i, next, h, c, hc => by
    rw [scanL] at h
    by_cases hf : (unitL vals a 0).2 = true
    · rw [if_pos hf] at h
      cases h
    · rw [if_neg hf] at h
      rcases List.mem_cons.1 hc with rfl | hc
      · exact Bool.eq_false_iff.2 hf
      · exact scan_none_ r _ _ h c hc
theorem scan_none {vals : List Int} {cs : List (List Int)} {next : Int} (h : scanL vals cs 0 0 = (none, next)) : ∀ c ∈ cs, (unitL vals c 0).2 = false := scan_none_ cs 0 0 (by rw [h])
/-- Both propagate, and come to the same. -/
theorem run_is (cs : List (List Int)) (hlen : cs.length * 24 ≤ 140737488351232) : ∀ (n : Nat) (vals list : List Int), vals.count 0 ≤ n → ValsOK vals → vals.length ≤ 4096 → (∀ c ∈ cs, LitsOK vals.length c ∧ c.length * 8 ≤ 140737488351232) → list.length + n ≤ 1000000 →
    ∃ r : List Int × List Int × Int, Ev (fun k => propL cs k vals list) r ∧ Ev (fun k => spec_l02Run.l0 k cs vals list) (r.2.1, r.2.2, r.1) ∧ r.1.length = vals.length ∧ ValsOK r.1 ∧ (r.2.2 < 0 → ∀ c ∈ cs, (unitL r.1 c 0).2 = false) := by
  intro n
  induction n with
  | zero =>
    intro vals list hz hv hn hc hl
    obtain ⟨q, hq⟩ : ∃ q, scanL vals cs 0 0 = q := ⟨_, rfl⟩
    have ho := scan_open hv cs 0 0 (fun c hc' => (hc c hc').1) (fun e => absurd rfl e)
    rw [hq] at ho
    obtain ⟨o, next⟩ := q
    cases o with
    | some i =>
      refine ⟨(vals, list, (i : Int)), stp (fun k => propL.eq_2 ..) ?_, round_is cs vals list hv hn hc hlen _ (fun nx e => ?_) (fun j nx e => ?_), rfl, hv, fun h => by simp only at h; omega⟩
      · rw [hq]
        exact sm _
      · rw [hq] at e
        cases e
      · rw [hq] at e
        cases e
        rfl
    | none =>
      have h0 : next = 0 := by
        by_cases h0 : next = 0
        · exact h0
        · have h1 := ho h0
          have h2 := count_set h0 h1.1 h1.2
          omega
      subst h0
      refine ⟨(vals, list, -1), stp (fun k => propL.eq_2 ..) ?_, round_is cs vals list hv hn hc hlen _ (fun nx e => ?_) (fun j nx e => ?_), rfl, hv, fun _ => scan_none hq⟩
      · rw [hq]
        exact ifp rfl (sm _)
      · rw [hq] at e
        cases e
        exact ifp rfl (sm _)
      · rw [hq] at e
        cases e
  | succ n ih =>
    intro vals list hz hv hn hc hl
    obtain ⟨q, hq⟩ : ∃ q, scanL vals cs 0 0 = q := ⟨_, rfl⟩
    have ho := scan_open hv cs 0 0 (fun c hc' => (hc c hc').1) (fun e => absurd rfl e)
    rw [hq] at ho
    obtain ⟨o, next⟩ := q
    cases o with
    | some i =>
      refine ⟨(vals, list, (i : Int)), stp (fun k => propL.eq_2 ..) ?_, round_is cs vals list hv hn hc hlen _ (fun nx e => ?_) (fun j nx e => ?_), rfl, hv, fun h => by simp only at h; omega⟩
      · rw [hq]
        exact sm _
      · rw [hq] at e
        cases e
      · rw [hq] at e
        cases e
        rfl
    | none =>
      by_cases h0 : next = 0
      · subst h0
        refine ⟨(vals, list, -1), stp (fun k => propL.eq_2 ..) ?_, round_is cs vals list hv hn hc hlen _ (fun nx e => ?_) (fun j nx e => ?_), rfl, hv, fun _ => scan_none hq⟩
        · rw [hq]
          exact ifp rfl (sm _)
        · rw [hq] at e
          cases e
          exact ifp rfl (sm _)
        · rw [hq] at e
          cases e
      · have h1 := ho h0
        simp only at h1
        have h2 := count_set h0 h1.1 h1.2
        obtain ⟨r, hr1, hr2, hr3, hr4, hr5⟩ := ih (setL vals next) (list ++ [next]) (by omega) (vals_set hv next) (by rw [setL_length]; exact hn) (by rw [setL_length]; exact hc) (by simp; omega)
        refine ⟨r, stp (fun k => propL.eq_2 ..) ?_, round_is cs vals list hv hn hc hlen _ (fun nx e => ?_) (fun j nx e => ?_), by rw [hr3, setL_length], hr4, hr5⟩
        · rw [hq]
          exact ifn h0 (ifp (by omega) hr1)
        · rw [hq] at e
          cases e
          exact ifn h0 (bnd0 (setS_is h0 h1.1 hn) (ifp (by omega) hr2))
        · rw [hq] at e
          cases e
theorem rupL_is (cs : List (List Int)) (hlen : cs.length * 24 ≤ 140737488351232) (c : List Int) (hcl : c.length * 8 ≤ 140737488351232) (N : Nat) (hN : N ≤ 4096) (hc : ∀ c ∈ cs, LitsOK N c ∧ c.length * 8 ≤ 140737488351232) (hl : LitsOK N c) :
    ∀ (d i : Nat) (vals : List Int), i + d = c.length → vals.length = N → ValsOK vals → ∃ b, Ev (fun k => spec_l03Rup.l0 k cs c vals (i : Int)) b ∧ Ev (fun k => match assumeL vals (c.drop i) with
      | none => some true
      | some v => (propL cs k v []).bind fun t => some (decide (0 ≤ t.2.2))) b := by
  intro d
  induction d with
  | zero =>
    intro i vals hi hvl hv
    obtain rfl : i = c.length := by omega
    rw [List.drop_length, assumeL]
    obtain ⟨r, h1, h2, _, _, _⟩ := run_is cs hlen (vals.count 0) vals [] (Nat.le_refl _) hv (by omega) (by rw [hvl]; exact hc) (by have := List.count_le_length (a := (0 : Int)) (l := vals); simp; omega)
    refine ⟨decide (0 ≤ r.2.2), ?_, ?_⟩
    · exact stp (fun k => spec_l03Rup.l0.eq_2 ..) (ifn (by omega) (bnd (evc (fun k => spec_l02Run.f.eq_1 ..) h2) (sm _)))
    · exact bnd h1 (sm _)
  | succ d ih =>
    intro i vals hi hvl hv
    have hil : i < c.length := by omega
    have hx := hl c[i] (List.getElem_mem hil)
    have hr : rd c (i : Int) = c[i] := getD_some (List.getElem?_eq_getElem hil)
    have hup : wrap64 ((i : Int) + 1) = ((i + 1 : Nat) : Int) := by rw [up (by omega) (by omega : (i : Int) < (c.length : Int)) (by omega)]; omega
    have hng : wrap64 (-c[i]) = -c[i] := w64 (by omega) (by omega)
    have hset : spec_l02Set.f vals (-c[i]) = some (setL vals (-c[i])) := setS_is (by omega) (by omega) (by omega)
    have hvo := rd_ok hv (c[i].natAbs : Int) (by omega) (by omega)
    rw [List.drop_eq_getElem_cons hil, assumeL]
    by_cases ht : isL vals c[i] = true
    · rw [if_pos ht]
      refine ⟨true, ?_, sm _⟩
      refine stp (fun k => spec_l03Rup.l0.eq_2 ..) (ifp (by omega) (ifp (by omega) ?_))
      rw [hr]
      refine bnd0 (abs_is (by omega)) (ifp (by omega) (ifp (by omega) ?_))
      rw [isL_val, decide_eq_true_eq] at ht
      unfold valL at ht
      refine ifn (by split at ht <;> omega) (ifp ?_ (sm _))
      by_cases hneg : c[i] < 0
      · rw [if_pos hneg] at ht
        rw [show rd vals (c[i].natAbs : Int) = -1 by omega, decide_eq_false (by omega)]
        rfl
      · rw [if_neg hneg] at ht
        rw [ht, decide_eq_true (by omega)]
        rfl
    · rw [if_neg ht]
      obtain ⟨b, h1, h2⟩ := ih (i + 1) (setL vals (-c[i])) (by omega) (by rw [setL_length]; exact hvl) (vals_set hv _)
      refine ⟨b, ?_, h2⟩
      refine stp (fun k => spec_l03Rup.l0.eq_2 ..) (ifp (by omega) (ifp (by omega) ?_))
      rw [hr, hup, hng]
      refine bnd0 (abs_is (by omega)) (ifp (by omega) (ifp (by omega) ?_))
      by_cases hz : rd vals (c[i].natAbs : Int) = 0
      · exact ifp hz (bnd0 hset h1)
      · refine ifn hz (ifn ?_ (bnd0 hset h1))
        rw [isL_val, decide_eq_true_eq] at ht
        unfold valL at ht
        by_cases hneg : c[i] < 0
        · rw [if_pos hneg] at ht
          rw [show rd vals (c[i].natAbs : Int) = 1 by omega, decide_eq_false (by omega)]
          decide
        · rw [if_neg hneg] at ht
          rw [show rd vals (c[i].natAbs : Int) = -1 by omega, decide_eq_true (by omega)]
          decide
/-- Both tell whether a clause is RUP. -/
theorem rup_is (a : Int) (cs : List (List Int)) (hlen : cs.length * 24 ≤ 140737488351232) (c : List Int) (hcl : c.length * 8 ≤ 140737488351232) (h0 : 0 ≤ a) (h1 : a ≤ 40) (hc : ∀ c ∈ cs, LitsOK (a + 1).toNat c ∧ c.length * 8 ≤ 140737488351232) (hl : LitsOK (a + 1).toNat c) :
    ∃ b, Ev (fun k => spec_l03Rup.f k cs a c) b ∧ Ev (fun k => impl_isRup.f k a cs c) b := by
  obtain ⟨b, h2, h3⟩ := rupL_is cs hlen c hcl (a + 1).toNat (by omega) hc hl c.length 0 (List.replicate (a + 1).toNat 0) (by omega) (by simp) (vals_zero _)
  rw [List.drop_zero] at h3
  have hw : wrap64 (a + 1) = a + 1 := w64 (by omega) (by omega)
  refine ⟨b, evc (fun k => spec_l03Rup.f.eq_1 ..) ?_, evc (fun k => impl_isRup.f.eq_1 ..) (ifp ?_ h3)⟩
  · rw [hw]
    exact ifp (by omega) (ifp (by omega) h2)
  · rw [decide_eq_true h0, decide_eq_true (by omega : a ≤ 4000), lits_fit hl, Bool.true_and, Bool.true_and]
    exact List.all_eq_true.2 fun c hc' => lits_fit (hc c hc').1
/-- A right formula's clauses have literals that its values tell of. -/
theorem clause_lits {a : Int} (h0 : 0 ≤ a) (h1 : a ≤ 40) {c : List Int} (h : clauseB c a = true) : LitsOK (a + 1).toNat c := by
  intro x hx
  unfold clauseB at h
  rw [not_any_not c (fun x => litB x a), Bool.and_eq_true] at h
  have := List.all_eq_true.1 h.2 x hx
  simp only [litB, Bool.and_eq_true, decide_eq_true_eq] at this
  rw [w64 (by omega) (by omega)] at this
  refine ⟨this.1, by omega⟩
theorem cnf_lits {a : Int} {l : List (List Int)} (hr : RowsOK l) (h : cnfB a l = true) : 0 ≤ a ∧ a ≤ 40 ∧ ∀ c ∈ l, LitsOK (a + 1).toNat c ∧ c.length * 8 ≤ 140737488351232 := by
  unfold cnfB at h
  rw [not_any_not l (fun c => clauseB c a)] at h
  simp only [Bool.and_eq_true, decide_eq_true_eq] at h
  refine ⟨h.1, h.2.1, fun c hc => ⟨clause_lits h.1 h.2.1 (List.all_eq_true.1 h.2.2.2 c hc), (hr.2 c hc).1⟩⟩
theorem has_is (x : Int) (c : List Int) (hc : c.length * 8 ≤ 140737488351232) : Ev (fun k => spec_l01Has.f k c x) (decide (0 ≤ idxL x c 0)) := by
  refine evc (fun k => spec_l01Has.f.eq_1 ..) ?_
  have key : ∀ (d i : Nat), i + d = c.length → Ev (fun k => spec_l01Has.l0 k c x (i : Int)) (decide (0 ≤ idxL x (c.drop i) i)) := by
    intro d
    induction d with
    | zero =>
      intro i hi
      obtain rfl : i = c.length := by omega
      rw [List.drop_length, idxL]
      exact stp (fun k => spec_l01Has.l0.eq_2 ..) (ifn (by omega) (sm _))
    | succ d ih =>
      intro i hi
      have hil : i < c.length := by omega
      have hr : rd c (i : Int) = c[i] := getD_some (List.getElem?_eq_getElem hil)
      have h2 := ih (i + 1) (by omega)
      have e0 : (0 : Int) ≤ (i : Int) := Int.natCast_nonneg i
      have e1 : (i : Int) < (c.length : Int) := Int.ofNat_lt.2 hil
      rw [List.drop_eq_getElem_cons hil, idxL]
      refine stp (fun k => spec_l01Has.l0.eq_2 ..) (ifp e1 (ifp e0 ?_))
      rw [hr, up e0 e1 (by omega)]
      by_cases hx : c[i] = x
      · rw [if_pos hx.symm, decide_eq_true e0]
        exact ifp hx (sm _)
      · rw [if_neg (fun e => hx e.symm)]
        exact ifn hx h2
  have := key c.length 0 (by omega)
  rwa [List.drop_zero] at this
/-- the reference's resolvent, literal by literal -/
theorem res_is (cs : List (List Int)) (a x : Int) (cl : List Int) (i : Nat) (hi : i < cs.length) (hlen : cs.length * 24 ≤ 140737488351232) (hcl : cl.length ≤ 12) (hd : cs[i].length ≤ 12) (hx : -1000000 ≤ x ∧ x ≤ 1000000) (r : Bool)
    (hk : Ev (fun k => (spec_l03Rup.f k cs a (cl ++ cs[i].filter fun y => y != -x)).bind fun t => if t = true then spec_l03Rat.l0 k cs a cl x (wrap64 ((i : Int) + 1)) else some false) r) : Ev (fun k => spec_l03Rat.l1 k cs a cl x (i : Int) cl 0) r := by
  have e0 : (0 : Int) ≤ (i : Int) := Int.natCast_nonneg i
  have e1 : (i : Int) < (cs.length : Int) := Int.ofNat_lt.2 hi
  have hr : rd_L1 cs (i : Int) = cs[i] := getD_some (List.getElem?_eq_getElem hi)
  have hw : wrap64 (-x) = -x := w64 (by omega) (by omega)
  have hcdl : (cs[i].length : Int) ≤ 9223372036854775807 := Int.le_trans (Int.ofNat_le.2 hd) (by decide)
  clear hx hlen
  have key : ∀ (d j : Nat) (out : List Int), j + d = cs[i].length → out = cl ++ (cs[i].take j).filter (fun y => y != -x) → Ev (fun k => spec_l03Rat.l1 k cs a cl x (i : Int) out (j : Int)) r := by
    intro d
    induction d with
    | zero =>
      intro j out hj ho
      obtain rfl : j = cs[i].length := by omega
      rw [List.take_length] at ho
      subst ho
      refine stp (fun k => spec_l03Rat.l1.eq_2 ..) (ifp e0 (ifp e1 ?_))
      rw [hr]
      exact ifn (by omega) hk
    | succ d ih =>
      intro j out hj ho
      have hjl : j < cs[i].length := by omega
      have f0 : (0 : Int) ≤ (j : Int) := Int.natCast_nonneg j
      have f1 : (j : Int) < (cs[i].length : Int) := Int.ofNat_lt.2 hjl
      have hrj : rd cs[i] (j : Int) = cs[i][j] := getD_some (List.getElem?_eq_getElem hjl)
      have hup : wrap64 ((j : Int) + 1) = ((j + 1 : Nat) : Int) := by rw [up f0 f1 hcdl]; rfl
      have hfl : ((cs[i].take j).filter fun y => y != -x).length ≤ 12 := Nat.le_trans (List.length_filter_le _ _) (Nat.le_trans (by rw [List.length_take]; exact Nat.min_le_right _ _) hd)
      have hol : out.length < 17592186044416 := by
        rw [ho, List.length_append]
        exact Nat.lt_of_le_of_lt (Nat.add_le_add hcl hfl) (by decide)
      have htk : (cs[i].take (j + 1)).filter (fun y => y != -x) = (cs[i].take j).filter (fun y => y != -x) ++ (if (cs[i][j] != -x) = true then [cs[i][j]] else []) := by
        rw [List.take_succ_eq_append_getElem hjl, List.filter_append, List.filter_cons, List.filter_nil]
      refine stp (fun k => spec_l03Rat.l1.eq_2 ..) (ifp e0 (ifp e1 ?_))
      rw [hr]
      refine ifp f1 (ifp f0 ?_)
      rw [hrj, hw, hup]
      by_cases hx : cs[i][j] = -x
      · refine ifp hx (ih (j + 1) out (by omega) ?_)
        rw [htk, if_neg (by simp [hx]), List.append_nil]
        exact ho
      · refine ifn hx (ifp hol (ih (j + 1) (out ++ [cs[i][j]]) (by omega) ?_))
        rw [htk, if_pos (bne_iff_ne.2 hx), ho, List.append_assoc]
  exact key cs[i].length 0 cl (by omega) (by simp)
/-- Both tell whether a clause is RAT. -/
theorem rat_is (a : Int) (cs : List (List Int)) (hlen : cs.length * 24 ≤ 140737488351232) (cl : List Int) (hcl : cl.length ≤ 12) (h0 : 0 ≤ a) (h1 : a ≤ 40) (hc : ∀ c ∈ cs, LitsOK (a + 1).toNat c ∧ c.length * 8 ≤ 140737488351232) (hds : ∀ d ∈ cs, d.length ≤ 12) (hl : LitsOK (a + 1).toNat cl) :
    ∃ b, Ev (fun k => spec_l03Rat.f k cs a cl) b ∧ Ev (fun k => impl_isRat.f k a cs cl) b := by
  by_cases hz : (cl.length : Int) = 0
  · exact ⟨false, evc (fun k => spec_l03Rat.f.eq_1 ..) (ifp hz (sm _)), evc (fun k => impl_isRat.f.eq_1 ..) (ifp hz (sm _))⟩
  · have hp : 0 < cl.length := by omega
    have hx0 : rd cl 0 = cl[0] := getD_some (List.getElem?_eq_getElem hp)
    have hxr : -1000000 ≤ rd cl 0 ∧ rd cl 0 ≤ 1000000 := by
      have := (hl cl[0] (List.getElem_mem hp)).2
      rw [hx0]
      omega
    obtain ⟨x, hx⟩ : ∃ x, rd cl 0 = x := ⟨_, rfl⟩
    rw [hx] at hxr
    have hw : wrap64 (-x) = -x := w64 (by omega) (by omega)
    have key : ∀ (d i : Nat), i + d = cs.length → ∃ b : Bool, Ev (fun k => spec_l03Rat.l0 k cs a cl x (i : Int)) (!b) ∧ Ev (fun k => ratsO k a cs cl (cs.drop i)) b := by
      intro d
      induction d with
      | zero =>
        intro i hi
        obtain rfl : i = cs.length := by omega
        refine ⟨false, stp (fun k => spec_l03Rat.l0.eq_2 ..) (ifn (by omega) (sm _)), ?_⟩
        rw [List.drop_length]
        exact sm _
      | succ d ih =>
        intro i hi
        have hil : i < cs.length := by omega
        have e0 : (0 : Int) ≤ (i : Int) := Int.natCast_nonneg i
        have e1 : (i : Int) < (cs.length : Int) := Int.ofNat_lt.2 hil
        have hr : rd_L1 cs (i : Int) = cs[i] := getD_some (List.getElem?_eq_getElem hil)
        have hup : wrap64 ((i : Int) + 1) = ((i + 1 : Nat) : Int) := by rw [up e0 e1 (by omega)]; rfl
        obtain ⟨b0, g1, g2⟩ := ih (i + 1) (by omega)
        have hcd := hc cs[i] (List.getElem_mem hil)
        have hdd := hds cs[i] (List.getElem_mem hil)
        have hhas := has_is (-x) cs[i] hcd.2
        rw [List.drop_eq_getElem_cons hil]
        by_cases hi0 : 0 ≤ idxL (-x) cs[i] 0
        · rw [decide_eq_true hi0] at hhas
          have hfl := List.length_filter_le (fun y => y != -x) cs[i]
          have hll : LitsOK (a + 1).toNat (cl ++ cs[i].filter fun y => y != -x) := by
            intro y hy
            rcases List.mem_append.1 hy with hy | hy
            · exact hl y hy
            · exact hcd.1 y (List.mem_filter.1 hy).1
          obtain ⟨b, r1, r2⟩ := rup_is a cs hlen (cl ++ cs[i].filter fun y => y != -x) (by rw [List.length_append]; omega) h0 h1 hc hll
          have hB : Ev (fun k => ratB k a cs cl cs[i]) (!b) := by
            refine evc (fun k => ratB.eq_1 ..) ?_
            rw [hx]
            exact ifp hi0 (bnd r2 (sm _))
          refine ⟨!b || b0, stp (fun k => spec_l03Rat.l0.eq_2 ..) (ifp e1 (ifp e0 ?_)), evc (fun k => ratsO.eq_2 ..) (bnd hB (bnd g2 (sm _)))⟩
          rw [hr, hw]
          refine bnd hhas (ifp rfl (bnd (sm _) (ifp (by simp; omega) ?_)))
          rw [List.nil_append]
          refine res_is cs a x cl i hil hlen hcl hdd hxr _ (bnd r1 ?_)
          rw [hup]
          cases b with
          | true =>
            rw [Bool.not_true, Bool.false_or]
            exact ifp rfl g1
          | false => exact ifn (by simp) (sm _)
        · rw [decide_eq_false hi0] at hhas
          have hB : Ev (fun k => ratB k a cs cl cs[i]) false := by
            refine evc (fun k => ratB.eq_1 ..) ?_
            rw [hx]
            exact ifn hi0 (sm _)
          refine ⟨b0, stp (fun k => spec_l03Rat.l0.eq_2 ..) (ifp e1 (ifp e0 ?_)), evc (fun k => ratsO.eq_2 ..) (bnd hB (bnd g2 (sm _)))⟩
          rw [hr, hw, hup]
          exact bnd hhas (ifn (by simp) g1)
    obtain ⟨b, k1, k2⟩ := key cs.length 0 (by omega)
    rw [List.drop_zero] at k2
    refine ⟨!b, evc (fun k => spec_l03Rat.f.eq_1 ..) (ifn hz (ifp (by omega) ?_)), evc (fun k => impl_isRat.f.eq_1 ..) (ifn hz (ifp ?_ (bnd k2 (sm _))))⟩
    · rw [hx]
      exact k1
    · unfold ratOK
      rw [hx, decide_eq_true (by omega : cl.length ≤ 4096), decide_eq_true hxr.1, decide_eq_true hxr.2]
      exact List.all_eq_true.2 fun d hd => decide_eq_true (by have := hds d hd; omega)

theorem both (a : Int) (l : List (List Int)) (h : RowsOK l) (c : List Int) (hcl : c.length * 8 ≤ 140737488351232) : ∃ r, Ev (fun k => spec_Rat.f k a l c) r ∧ Ev (fun k => impl_Rat.f k a l c) r := by
  by_cases h1 : (c.length : Int) > 4096
  · exact ⟨(false, 2), evc (fun k => spec_Rat.f.eq_1 ..) (ifp h1 (sm _)), evc (fun k => impl_Rat.f.eq_1 ..) (ifp h1 (sm _))⟩
  · by_cases h2 : cnfB a l = true
    · by_cases h3 : clauseB c a = true
      · obtain ⟨h4, h5, h6⟩ := cnf_lits h h2
        have hlen : c.length ≤ 12 := by
          unfold clauseB at h3
          simp only [Bool.and_eq_true, decide_eq_true_eq] at h3
          exact h3.1
        have hds : ∀ d ∈ l, d.length ≤ 12 := by
          intro d hd
          unfold cnfB at h2
          rw [not_any_not l (fun c => clauseB c a)] at h2
          simp only [Bool.and_eq_true, decide_eq_true_eq] at h2
          have := List.all_eq_true.1 h2.2.2.2 d hd
          unfold clauseB at this
          simp only [Bool.and_eq_true, decide_eq_true_eq] at this
          exact this.1
        obtain ⟨b, hb1, hb2⟩ := rat_is a l (rows_len h) c hlen h4 h5 h6 hds (clause_lits h4 h5 h3)
        exact ⟨(b, 0), evc (fun k => spec_Rat.f.eq_1 ..) (ifn h1 (bnd (specCnf_is a l h) (ifp h2 (bnd (specClause_is c a hcl) (ifp h3 (bnd hb1 (sm _))))))), evc (fun k => impl_Rat.f.eq_1 ..) (ifn h1 (bnd0 rfl (ifp h2 (bnd0 rfl (ifp h3 (bnd hb2 (sm _)))))))⟩
      · exact ⟨(false, 1), evc (fun k => spec_Rat.f.eq_1 ..) (ifn h1 (bnd (specCnf_is a l h) (ifp h2 (bnd (specClause_is c a hcl) (ifn h3 (sm _)))))), evc (fun k => impl_Rat.f.eq_1 ..) (ifn h1 (bnd0 rfl (ifp h2 (bnd0 rfl (ifn h3 (sm _))))))⟩
    · exact ⟨(false, 1), evc (fun k => spec_Rat.f.eq_1 ..) (ifn h1 (bnd (specCnf_is a l h) (ifn h2 (sm _)))), evc (fun k => impl_Rat.f.eq_1 ..) (ifn h1 (bnd0 rfl (ifn h2 (sm _))))⟩

theorem FnExactRat : laws_FnExactRat.Pure := by
  intro a l c ha hl hc
  refine Ev.rounds ?_
  refine evc (fun k => laws_FnExactRat.f.eq_1 ..) ?_
  have hcl := hc.1
  by_cases hbig : (c.length : Int) > 1048576
  · exact ifp hbig (sm _)
  · refine ifn hbig ?_
    obtain ⟨v, hv, hsz⟩ := szCnf_is a l hl 1048576 (by omega) (by omega)
    refine bnd hsz ?_
    by_cases h : v < 0
    · exact ifp h (sm _)
    · have hto := toCnf_is a l hl
      have hti := toI_is c (by omega)
      obtain ⟨r, hr1, hr2⟩ := both a l hl c hcl
      refine ifn h (bnd hto (bnd hti (bnd hr1 (bnd hto (bnd hti (bnd hr2 (ifn (by simp) ?_)))))))
      refine stp (fun k => laws_FnExactRat.j0.eq_2 ..) (ifn (by simp) ?_)
      exact bnd hto (bnd (eqCnf_self a l hl) (ifp rfl (bnd hti (bnd (eqI_self c (by omega)) (ifp rfl (sm _))))))

end Go.Proofs.Ytelfahcjeldliaa.Pure
