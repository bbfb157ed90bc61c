/- FnExactLeastModel: the pure statement behind the law: the program's least model is the reference's. No conditions. -/
import Derived.Test.YtelfahcjeldliaaDefFnExactLeastModel
import Derived.Test.YtelfahcjeldliaaPlain
set_option linter.unusedVariables false
set_option linter.unusedSimpArgs false
namespace Go.Proofs.Ytelfahcjeldliaa.Pure
open Go.RowKit Go.Proofs.Ytelfahcjeldliaa Go.Proofs.Ytelfahcjeldliaa.PFnExactLeastModel Go.Proofs.YtelfahcjeldliaaW.PrintWords Go.Proofs.YtelfahcjeldliaaW.PrintLast Go.Proofs.YtelfahcjeldliaaW.PrintMore Go.Proofs.Ytelfahcjeldliaa.Plain

theorem in_is (x lo hi : Int) : spec_l01In.f x lo hi = some (decide (lo ≤ x) && decide (x ≤ hi)) := by
  unfold spec_l01In.f
  by_cases h : x ≥ lo
  · rw [if_pos h, decide_eq_true h, Bool.true_and]
  · rw [if_neg h, decide_eq_false h, Bool.false_and]
/-- what is left when a list is counted -/
def szI (left : Int) (c : List Int) : Int := if left - (c.length : Int) < 0 then -1 else left - (c.length : Int)
theorem szI_le (left : Int) (c : List Int) (h : 0 ≤ left) : szI left c ≤ left := by unfold szI; split <;> omega
theorem szI_neg (left : Int) (c : List Int) (h : szI left c < 0) : szI left c = -1 := by unfold szI at *; split at h <;> simp_all <;> omega
theorem szI_is (c : List Int) (left : Int) (h0 : 0 ≤ left) (h1 : left ≤ 1048576) (hc : c.length ≤ 140737488351232) : laws_szIntS.f c left = some (szI left c) := by
  unfold laws_szIntS.f szI
  rw [w64 (by omega) (by omega)]
  by_cases h : left - (c.length : Int) < 0
  · rw [if_pos h, if_pos h]
  · rw [if_neg h, if_neg h]
theorem toI_is (l : List Int) (hl : l.length ≤ 35184372088832) : Ev (fun k => laws_toIntS.f k l) l := by
  refine evc (fun k => laws_toIntS.f.eq_1 ..) (ifp (by omega) (ifp (by omega) ?_))
  have := copy (fun x : Int => x) l (fun i out k => laws_toIntS.l0 k l out i) ?_ ?_ (List.replicate (l.length : Int).toNat 0) (by simp)
  · simpa using this
  · intro out
    exact stp (fun k => laws_toIntS.l0.eq_2 ..) (ifn (by omega) (sm _))
  · intro i out r x hx hlen hk
    have hi : i < l.length := (List.getElem?_eq_some_iff.1 hx).1
    refine stp (fun k => laws_toIntS.l0.eq_2 ..) (ifp (by omega) (ifp (by omega) (ifp (by omega) ?_)))
    rw [show rd l (i : Int) = x from getD_some hx, up (by omega) (by omega : (i : Int) < (l.length : Int)) (by omega), Int.toNat_natCast]
    exact hk
theorem eqI_self (l : List Int) (hl : l.length ≤ 140737488351232) : Ev (fun k => laws_eqIntS.f k l l) true := by
  refine evc (fun k => laws_eqIntS.f.eq_1 ..) (ifp rfl ?_)
  refine same l (fun i k => laws_eqIntS.l0 k l l i) ?_ ?_
  · exact stp (fun k => laws_eqIntS.l0.eq_2 ..) (ifn (by omega) (sm _))
  · intro i x hx hk
    have hi : i < l.length := (List.getElem?_eq_some_iff.1 hx).1
    refine stp (fun k => laws_eqIntS.l0.eq_2 ..) (ifp (by omega) (ifp (by omega) (ifp (by omega) (ifp rfl ?_))))
    rw [up (by omega) (by omega : (i : Int) < (l.length : Int)) (by omega)]
    exact hk
/-- rows of numbers within the reach -/
abbrev RowsOK (l : List (List Int)) : Prop := Reads.WFL 24 (Reads.WFL 8 Reads.WFI) l
theorem rows_len {l : List (List Int)} (h : RowsOK l) : l.length * 24 ≤ 140737488351232 := h.1
theorem row_len {l : List (List Int)} (h : RowsOK l) {i : Nat} {c : List Int} (hc : l[i]? = some c) : c.length * 8 ≤ 140737488351232 := (h.2 c (List.mem_of_getElem? hc)).1
theorem row_num {l : List (List Int)} (h : RowsOK l) {c : List Int} (hc : c ∈ l) {x : Int} (hx : x ∈ c) : -9223372036854775808 ≤ x ∧ x ≤ 9223372036854775807 := (h.2 c hc).2 x hx
theorem szSS_is (l : List (List Int)) (h : RowsOK l) (left : Int) (h0 : 0 ≤ left) (h1 : left ≤ 1048576) : ∃ v : Int, v ≤ 1048576 ∧ Ev (fun k => laws_szIntSS.f k l left) v := by
  have hl := rows_len h
  by_cases hs : left - (l.length : Int) < 0
  · exact ⟨-1, by omega, evc (fun k => laws_szIntSS.f.eq_1 ..) (ifp (by rw [w64 (by omega) (by omega)]; exact hs) (sm _))⟩
  · have key : ∀ (d i : Nat) (lf : Int), i + d = l.length → 0 ≤ lf → lf ≤ 1048576 → ∃ v : Int, v ≤ 1048576 ∧ Ev (fun k => laws_szIntSS.l0 k l lf (i : Int)) v := by
      intro d
      induction d with
      | zero =>
        intro i lf hi hf0 hf1
        exact ⟨lf, hf1, stp (fun k => laws_szIntSS.l0.eq_2 ..) (ifn (by omega) (sm _))⟩
      | succ d ih =>
        intro i lf hi hf0 hf1
        have hil : i < l.length := by omega
        have hx : l[i]? = some l[i] := List.getElem?_eq_getElem hil
        have hlen := row_len h hx
        have hsz := szI_is l[i] lf hf0 hf1 (by omega)
        by_cases hn : szI lf l[i] < 0
        · refine ⟨-1, by omega, stp (fun k => laws_szIntSS.l0.eq_2 ..) (ifp (by omega) (ifp (by omega) ?_))⟩
          rw [show rd_L1 l (i : Int) = l[i] from getD_some hx]
          exact bnd0 hsz (ifp hn (sm _))
        · obtain ⟨v, hv, hev⟩ := ih (i + 1) (szI lf l[i]) (by omega) (by omega) (by have := szI_le lf l[i] hf0; omega)
          rw [show ((i + 1 : Nat) : Int) = (i : Int) + 1 by omega] at hev
          refine ⟨v, hv, stp (fun k => laws_szIntSS.l0.eq_2 ..) (ifp (by omega) (ifp (by omega) ?_))⟩
          rw [show rd_L1 l (i : Int) = l[i] from getD_some hx, up (by omega) (by omega : (i : Int) < (l.length : Int)) (by omega)]
          exact bnd0 hsz (ifn hn hev)
    obtain ⟨v, hv, hev⟩ := key l.length 0 (left - (l.length : Int)) (by omega) (by omega) (by omega)
    refine ⟨v, hv, evc (fun k => laws_szIntSS.f.eq_1 ..) (ifn (by rw [w64 (by omega) (by omega)]; exact hs) ?_)⟩
    rw [w64 (by omega) (by omega)]
    exact hev
theorem szCnf_is (a : Int) (l : List (List Int)) (h : RowsOK l) (left : Int) (h0 : 0 ≤ left) (h1 : left ≤ 1048576) : ∃ v : Int, v ≤ 1048576 ∧ Ev (fun k => laws_szCnf.f k a l left) v := by
  obtain ⟨v, hv, hev⟩ := szSS_is l h left h0 h1
  by_cases hn : v < 0
  · exact ⟨-1, by omega, bnd hev (ifp hn (sm _))⟩
  · exact ⟨v, hv, bnd hev (ifn hn (sm _))⟩
theorem toSS_is (l : List (List Int)) (h : RowsOK l) : Ev (fun k => laws_toIntSS.f k l) l := by
  have hl := rows_len h
  refine evc (fun k => laws_toIntSS.f.eq_1 ..) (ifp (by omega) (ifp (by omega) ?_))
  have := copy (fun x : List Int => x) l (fun i out k => laws_toIntSS.l0 k l out i) ?_ ?_ (List.replicate (l.length : Int).toNat []) (by simp)
  · simpa using this
  · intro out
    exact stp (fun k => laws_toIntSS.l0.eq_2 ..) (ifn (by omega) (sm _))
  · intro i out r x hx hlen hk
    have hi : i < l.length := (List.getElem?_eq_some_iff.1 hx).1
    have hxl := row_len h hx
    refine stp (fun k => laws_toIntSS.l0.eq_2 ..) (ifp (by omega) (ifp (by omega) ?_))
    rw [show rd_L1 l (i : Int) = x from getD_some hx, up (by omega) (by omega : (i : Int) < (l.length : Int)) (by omega), Int.toNat_natCast]
    exact bnd (toI_is x (by omega)) (ifp (by omega) hk)
theorem toCnf_is (a : Int) (l : List (List Int)) (h : RowsOK l) : Ev (fun k => laws_toCnf.f k a l) (a, l) := bnd (toSS_is l h) (sm _)
theorem eqSS_self (l : List (List Int)) (h : RowsOK l) : Ev (fun k => laws_eqIntSS.f k l l) true := by
  have hl := rows_len h
  refine evc (fun k => laws_eqIntSS.f.eq_1 ..) (ifp rfl ?_)
  refine same l (fun i k => laws_eqIntSS.l0 k l l i) ?_ ?_
  · exact stp (fun k => laws_eqIntSS.l0.eq_2 ..) (ifn (by omega) (sm _))
  · intro i x hx hk
    have hi : i < l.length := (List.getElem?_eq_some_iff.1 hx).1
    have hxl := row_len h hx
    refine stp (fun k => laws_eqIntSS.l0.eq_2 ..) (ifp (by omega) (ifp (by omega) (ifp (by omega) ?_)))
    rw [show rd_L1 l (i : Int) = x from getD_some hx, up (by omega) (by omega : (i : Int) < (l.length : Int)) (by omega)]
    exact bnd (eqI_self x (by omega)) (ifp rfl hk)
theorem eqCnf_self (a : Int) (l : List (List Int)) (h : RowsOK l) : Ev (fun k => laws_eqCnf.f k a l a l) true :=
  evc (fun k => laws_eqCnf.f.eq_1 ..) (ifp rfl (bnd (eqSS_self l h) (ifp rfl (sm _))))

theorem specClause_is (c : List Int) (vars : Int) (hc : c.length * 8 ≤ 140737488351232) : Ev (fun k => spec_l01Clause.f k c vars) (clauseB c vars) := by
  unfold clauseB
  rw [not_any_not c (fun x => litB x vars)]
  refine evc (fun k => spec_l01Clause.f.eq_1 ..) ?_
  by_cases h : c.length ≤ 12
  · rw [decide_eq_true h, Bool.true_and]
    refine ifn (by omega) ?_
    refine allL c (fun x => litB x vars) (fun i k => spec_l01Clause.l0 k c vars i) ?_ ?_
    · exact stp (fun k => spec_l01Clause.l0.eq_2 ..) (ifn (by omega) (sm _))
    · intro i x r hx hk
      have hi : i < c.length := (List.getElem?_eq_some_iff.1 hx).1
      refine stp (fun k => spec_l01Clause.l0.eq_2 ..) (ifp (by omega) (ifp (by omega) ?_))
      rw [show rd c (i : Int) = x from getD_some hx, up (by omega) (by omega : (i : Int) < (c.length : Int)) (by omega)]
      unfold litB
      by_cases hz : x = 0
      · refine ifp hz ?_
        rw [decide_eq_false (by simpa using hz)]
        exact sm _
      · refine ifn hz (bnd0 (in_is _ _ _) ?_)
        rw [decide_eq_true hz, Bool.true_and]
        cases hb : decide (wrap64 (-vars) ≤ x) && decide (x ≤ vars) with
        | true => exact ifp rfl (by simpa using hk)
        | false => exact ifn (by simp) (sm _)
  · rw [decide_eq_false h, Bool.false_and]
    exact ifp (by omega) (sm _)
theorem specCnf_is (a : Int) (l : List (List Int)) (h : RowsOK l) : Ev (fun k => spec_CnfOK.f k a l) (cnfB a l) := by
  have hl := rows_len h
  unfold cnfB
  rw [not_any_not l (fun c => clauseB c a), ← Bool.and_assoc]
  refine bnd0 (in_is _ _ _) ?_
  cases h1 : decide (0 ≤ a) && decide (a ≤ 40) with
  | false =>
    rw [Bool.false_and]
    exact ifn (by simp) (stp (fun k => spec_CnfOK.j0.eq_2 ..) (ifp rfl (sm _)))
  | true =>
    rw [Bool.true_and]
    refine ifp rfl (stp (fun k => spec_CnfOK.j0.eq_2 ..) ?_)
    by_cases h2 : l.length ≤ 300
    · rw [decide_eq_true h2, Bool.true_and]
      refine ifn (by simp; omega) ?_
      refine allL l (fun c => clauseB c a) (fun i k => spec_CnfOK.l0 k i a l) ?_ ?_
      · exact stp (fun k => spec_CnfOK.l0.eq_2 ..) (ifn (by omega) (sm _))
      · intro i x r hx hk
        have hi : i < l.length := (List.getElem?_eq_some_iff.1 hx).1
        have hxl := row_len h hx
        refine stp (fun k => spec_CnfOK.l0.eq_2 ..) (ifp (by omega) (ifp (by omega) ?_))
        rw [show rd_L1 l (i : Int) = x from getD_some hx, up (by omega) (by omega : (i : Int) < (l.length : Int)) (by omega)]
        refine bnd (specClause_is x a hxl) ?_
        cases hb : clauseB x a with
        | true => exact ifp rfl (by simpa using hk)
        | false => exact ifn (by simp) (sm _)
    · rw [decide_eq_false h2, Bool.false_and]
      exact ifp (by simp; omega) (sm _)
/-- what the count of a formula tells of its size -/
theorem szSS_sum (l : List (List Int)) (h : RowsOK l) (left : Int) (h0 : 0 ≤ left) (h1 : left ≤ 1048576) : ∃ v : Int, v ≤ 1048576 ∧ Ev (fun k => laws_szIntSS.f k l left) v ∧ (0 ≤ v → (sumL l : Int) ≤ left) := by
  have hl := rows_len h
  by_cases hs : left - (l.length : Int) < 0
  · exact ⟨-1, by omega, evc (fun k => laws_szIntSS.f.eq_1 ..) (ifp (by rw [w64 (by omega) (by omega)]; exact hs) (sm _)), fun h => by omega⟩
  · have key : ∀ (d i : Nat) (lf : Int), i + d = l.length → 0 ≤ lf → lf ≤ 1048576 → ∃ v : Int, v ≤ 1048576 ∧ Ev (fun k => laws_szIntSS.l0 k l lf (i : Int)) v ∧ (0 ≤ v → (sumL (l.drop i) : Int) ≤ lf) := by
      intro d
      induction d with
      | zero =>
        intro i lf hi hf0 hf1
        obtain rfl : i = l.length := by omega
        rw [List.drop_length]
        exact ⟨lf, hf1, stp (fun k => laws_szIntSS.l0.eq_2 ..) (ifn (by omega) (sm _)), fun _ => hf0⟩
      | succ d ih =>
        intro i lf hi hf0 hf1
        have hil : i < l.length := by omega
        have hx : l[i]? = some l[i] := List.getElem?_eq_getElem hil
        have hlen := row_len h hx
        have hsz := szI_is l[i] lf hf0 hf1 (by omega)
        have hsum := sumL_drop l i hil
        rw [show l.getD i [] = l[i] by simp [List.getD, hil]] at hsum
        by_cases hn : szI lf l[i] < 0
        · refine ⟨-1, by omega, stp (fun k => laws_szIntSS.l0.eq_2 ..) (ifp (by omega) (ifp (by omega) ?_)), fun h => by omega⟩
          rw [show rd_L1 l (i : Int) = l[i] from getD_some hx]
          exact bnd0 hsz (ifp hn (sm _))
        · obtain ⟨v, hv, hev, hvs⟩ := ih (i + 1) (szI lf l[i]) (by omega) (by omega) (by have := szI_le lf l[i] hf0; omega)
          rw [show ((i + 1 : Nat) : Int) = (i : Int) + 1 by omega] at hev
          refine ⟨v, hv, stp (fun k => laws_szIntSS.l0.eq_2 ..) (ifp (by omega) (ifp (by omega) ?_)), fun h0 => ?_⟩
          · rw [show rd_L1 l (i : Int) = l[i] from getD_some hx, up (by omega) (by omega : (i : Int) < (l.length : Int)) (by omega)]
            exact bnd0 hsz (ifn hn hev)
          · have h2 := hvs h0
            have h3 : szI lf l[i] = lf - (l[i].length : Int) := by unfold szI at hn ⊢; split at hn <;> simp_all <;> omega
            omega
    obtain ⟨v, hv, hev, hvs⟩ := key l.length 0 (left - (l.length : Int)) (by omega) (by omega) (by omega)
    rw [List.drop_zero] at hvs
    refine ⟨v, hv, evc (fun k => laws_szIntSS.f.eq_1 ..) (ifn (by rw [w64 (by omega) (by omega)]; exact hs) ?_), fun h0 => by have := hvs h0; omega⟩
    rw [w64 (by omega) (by omega)]
    exact hev
theorem szCnf_sum (a : Int) (l : List (List Int)) (h : RowsOK l) (left : Int) (h0 : 0 ≤ left) (h1 : left ≤ 1048576) : ∃ v : Int, v ≤ 1048576 ∧ Ev (fun k => laws_szCnf.f k a l left) v ∧ (0 ≤ v → (sumL l : Int) ≤ left) := by
  obtain ⟨v, hv, hev, hs⟩ := szSS_sum l h left h0 h1
  by_cases hn : v < 0
  · exact ⟨-1, by omega, bnd hev (ifp hn (sm _)), fun h => by omega⟩
  · exact ⟨v, hv, bnd hev (ifn hn (sm _)), hs⟩
/-- values of a state -/
abbrev ValsOK (vals : List Int) : Prop := ∀ v ∈ vals, v = -1 ∨ v = 0 ∨ v = 1
/-- literals that such values tell of -/
abbrev LitsOK (n : Nat) (c : List Int) : Prop := ∀ x ∈ c, x ≠ 0 ∧ x.natAbs < n
theorem lits_fit {n : Nat} {c : List Int} (h : LitsOK n c) : fitL n c = true := List.all_eq_true.2 fun x hx => decide_eq_true (h x hx).2
theorem vals_set {vals : List Int} (h : ValsOK vals) (x : Int) : ValsOK (setL vals x) := by
  intro v hv
  unfold setL at hv
  split at hv
  · rcases List.mem_or_eq_of_mem_set hv with h2 | h2
    · exact h v h2
    · exact .inl h2
  · rcases List.mem_or_eq_of_mem_set hv with h2 | h2
    · exact h v h2
    · exact .inr (.inr h2)
theorem vals_zero (n : Nat) : ValsOK (List.replicate n 0) := fun v hv => .inr (.inl (List.eq_of_mem_replicate hv))
/-- a literal's own value -/
def valL (vals : List Int) (x : Int) : Int := if x < 0 then -(rd vals (x.natAbs : Int)) else rd vals (x.natAbs : Int)
theorem rd_ok {vals : List Int} (h : ValsOK vals) (i : Int) (h0 : 0 ≤ i) (h1 : i < vals.length) : rd vals i = -1 ∨ rd vals i = 0 ∨ rd vals i = 1 := by
  have hi : i.toNat < vals.length := by omega
  have : rd vals i = vals[i.toNat] := by unfold rd; simp [List.getD, hi]
  rw [this]
  exact h _ (List.getElem_mem hi)
theorem isL_val (vals : List Int) (x : Int) : isL vals x = decide (valL vals x = 1) := by
  unfold isL valL
  by_cases h : x < 0
  · rw [if_pos h, if_pos h, show (x.natAbs : Int) = -x by omega, Bool.eq_iff_iff, beq_iff_eq, decide_eq_true_eq]
    omega
  · rw [if_neg h, if_neg h, show (x.natAbs : Int) = x by omega, Bool.eq_iff_iff, beq_iff_eq, decide_eq_true_eq]
theorem isL_neg {vals : List Int} {x : Int} (h0 : x ≠ 0) : isL vals (-x) = decide (valL vals x = -1) := by
  rw [isL_val]
  unfold valL
  rw [show (-x).natAbs = x.natAbs by omega, Bool.eq_iff_iff, decide_eq_true_eq, decide_eq_true_eq]
  by_cases h : x < 0
  · rw [if_neg (by omega), if_pos h]
    omega
  · rw [if_pos (by omega), if_neg h]
    omega
theorem valL_ok {vals : List Int} (h : ValsOK vals) {x : Int} (hx : x.natAbs < vals.length) : valL vals x = -1 ∨ valL vals x = 0 ∨ valL vals x = 1 := by
  have := rd_ok h (x.natAbs : Int) (by omega) (by omega)
  unfold valL
  split <;> omega
/-- what the reference tells of a clause -/
def clS (vals : List Int) : List Int → Int → Int → Bool × Int × Int
  | [], n, one => (false, n, one)
  | x :: r, n, one => if valL vals x = 1 then (true, 0, 0) else if valL vals x = 0 then (if one = x then clS vals r n one else clS vals r (n + 1) x) else clS vals r n one
/-- .. as the program tells it -/
def cvS (q : Bool × Int × Int) : Int × Bool := if q.1 = true then (0, false) else if q.2.1 = 0 then (0, true) else if q.2.1 = 1 then (q.2.2, false) else (0, false)
theorem clS_two (vals : List Int) : ∀ (c : List Int) (n one : Int), 2 ≤ n → cvS (clS vals c n one) = (0, false)
  | [], n, one, h => by
    unfold clS cvS
    rw [if_neg (by simp), if_neg (by simp; omega), if_neg (by simp; omega)]
  | x :: r, n, one, h => by
    unfold clS
    split
    · rfl
    · split
      · split
        · exact clS_two vals r n one h
        · exact clS_two vals r (n + 1) x (by omega)
      · exact clS_two vals r n one h
theorem unit_clS {vals : List Int} (hv : ValsOK vals) : ∀ (c : List Int) (one : Int), LitsOK vals.length c → unitL vals c one = cvS (clS vals c (if one = 0 then 0 else 1) one)
  | [], one, _ => by
    unfold unitL clS cvS
    by_cases h : one = 0
    · subst h; rfl
    · rw [if_neg h, if_neg (by simp), if_neg (by simp), if_pos rfl, beq_eq_false_iff_ne.2 h]
  | x :: r, one, hl => by
    have hx := hl x (by simp)
    have hr : LitsOK vals.length r := fun y hy => hl y (by simp [hy])
    have ih := unit_clS hv r
    unfold unitL clS
    rw [isL_val, isL_neg hx.1]
    rcases valL_ok hv hx.2 with h | h | h
    · rw [h, if_neg (by decide), if_pos (by decide), if_neg (by decide), if_neg (by decide)]
      exact ih one hr
    · rw [h, if_neg (show ¬ (decide ((0 : Int) = 1) = true) by decide), if_neg (show ¬ (decide ((0 : Int) = -1) = true) by decide), if_neg (show ¬ (0 : Int) = 1 by decide), if_pos (show (0 : Int) = 0 from rfl)]
      by_cases hxo : x = one
      · rw [if_pos hxo, if_pos hxo.symm]
        exact ih one hr
      · have hox : ¬ one = x := fun e => hxo e.symm
        rw [if_neg hxo, if_neg hox]
        by_cases h0 : one = 0
        · rw [if_pos h0, if_pos h0]
          have := ih x hr
          rwa [if_neg hx.1] at this
        · rw [if_neg h0, if_neg h0]
          exact (clS_two vals r (1 + 1) x (by omega)).symm
    · rw [h, if_pos (by decide), if_pos rfl]
      rfl
theorem abs_is {x : Int} (h : x.natAbs < 4097) : spec_l01Abs.f x = some (x.natAbs : Int) := by
  unfold spec_l01Abs.f mx
  rw [w64 (by omega) (by omega)]
  split
  · congr 1; omega
  · congr 1; omega
theorem setS_is {vals : List Int} {x : Int} (h0 : x ≠ 0) (h : x.natAbs < vals.length) (hn : vals.length ≤ 4096) : spec_l02Set.f vals x = some (setL vals x) := by
  unfold spec_l02Set.f setL
  rw [w64 (by omega) (by omega)]
  by_cases hx : x > 0
  · rw [if_pos hx, if_pos (by omega), if_pos (by omega), if_neg (by omega)]
  · rw [if_neg hx, if_pos (by omega), if_pos (by omega), if_pos (by omega)]
theorem clause_is (c vals : List Int) (hv : ValsOK vals) (hl : LitsOK vals.length c) (hn : vals.length ≤ 4096) (hc : c.length * 8 ≤ 140737488351232) : Ev (fun k => spec_l02Clause.f k c vals) (clS vals c 0 0) := by
  refine evc (fun k => spec_l02Clause.f.eq_1 ..) ?_
  have key : ∀ (d i : Nat) (n one : Int), i + d = c.length → 0 ≤ n → n ≤ i → Ev (fun k => spec_l02Clause.l0 k c vals n one (i : Int)) (clS vals (c.drop i) n one) := by
    intro d
    induction d with
    | zero =>
      intro i n one hi h0 h1
      obtain rfl : i = c.length := by omega
      rw [List.drop_length, clS]
      exact stp (fun k => spec_l02Clause.l0.eq_2 ..) (ifn (by omega) (sm _))
    | succ d ih =>
      intro i n one hi h0 h1
      have hil : i < c.length := by omega
      have hx := hl c[i] (List.getElem_mem hil)
      have hr : rd c (i : Int) = c[i] := getD_some (List.getElem?_eq_getElem hil)
      have hup : wrap64 ((i : Int) + 1) = ((i + 1 : Nat) : Int) := by rw [up (by omega) (by omega : (i : Int) < (c.length : Int)) (by omega)]; omega
      have hn1 : wrap64 (n + 1) = n + 1 := w64 (by omega) (by omega)
      rw [List.drop_eq_getElem_cons hil, clS]
      have hvo := rd_ok hv (c[i].natAbs : Int) (by omega) (by omega)
      refine stp (fun k => spec_l02Clause.l0.eq_2 ..) (ifp (by omega) (ifp (by omega) ?_))
      rw [hr]
      refine bnd0 (abs_is (by omega)) (ifp (by omega) (ifp (by omega) ?_))
      have fin : Ev (fun k => spec_l02Clause.j1 k c vals n one (i : Int) (valL vals c[i])) (if valL vals c[i] = 1 then (true, 0, 0) else if valL vals c[i] = 0 then (if one = c[i] then clS vals (c.drop (i + 1)) n one else clS vals (c.drop (i + 1)) (n + 1) c[i]) else clS vals (c.drop (i + 1)) n one) := by
        refine stp (fun k => spec_l02Clause.j1.eq_2 ..) ?_
        rw [hup, hn1, hr]
        by_cases e1 : valL vals c[i] = 1
        · rw [if_pos e1]
          exact ifp e1 (sm _)
        · rw [if_neg e1]
          refine ifn e1 ?_
          by_cases e2 : valL vals c[i] = 0
          · rw [if_pos e2]
            refine ifp e2 (ifp (by omega) (ifp (by omega) ?_))
            by_cases e3 : one = c[i]
            · rw [if_pos e3]
              exact ifp e3 (ih (i + 1) n one (by omega) h0 (by omega))
            · rw [if_neg e3]
              exact ifn e3 (ih (i + 1) (n + 1) c[i] (by omega) (by omega) (by omega))
          · rw [if_neg e2]
            exact ifn e2 (ih (i + 1) n one (by omega) h0 (by omega))
      by_cases hneg : c[i] < 0
      · refine ifp hneg ?_
        rw [w64 (by omega) (by omega)]
        have e : valL vals c[i] = -(rd vals (c[i].natAbs : Int)) := by unfold valL; rw [if_pos hneg]
        rw [← e]
        exact fin
      · refine ifn hneg ?_
        have e : valL vals c[i] = rd vals (c[i].natAbs : Int) := by unfold valL; rw [if_neg hneg]
        rw [← e]
        exact fin
  have := key c.length 0 0 0 (by omega) (by omega) (by omega)
  rwa [List.drop_zero] at this
/-- a literal that a clause makes true is a literal without a value -/
theorem unit_open {vals : List Int} (hv : ValsOK vals) : ∀ (c : List Int) (one : Int), LitsOK vals.length c → (one ≠ 0 → one.natAbs < vals.length ∧ valL vals one = 0) → (unitL vals c one).1 ≠ 0 → (unitL vals c one).1.natAbs < vals.length ∧ valL vals (unitL vals c one).1 = 0
  | [], one, _, h1, h => by
    rw [unitL] at h ⊢
    exact h1 h
  | x :: r, one, hl, h1, h => by
    have hx := hl x (by simp)
    have hr : LitsOK vals.length r := fun y hy => hl y (by simp [hy])
    rw [unitL] at h ⊢
    rw [isL_val, isL_neg hx.1] at h ⊢
    rcases valL_ok hv hx.2 with e | e | e
    · rw [e, if_neg (by decide), if_pos (by decide)] at h ⊢
      exact unit_open hv r one hr h1 h
    · rw [e, if_neg (by decide), if_neg (by decide)] at h ⊢
      by_cases hxo : x = one
      · rw [if_pos hxo] at h ⊢
        exact unit_open hv r one hr h1 h
      · rw [if_neg hxo] at h ⊢
        by_cases h0 : one = 0
        · rw [if_pos h0] at h ⊢
          exact unit_open hv r x hr (fun _ => ⟨hx.2, e⟩) h
        · rw [if_neg h0] at h
          exact absurd rfl h
    · rw [e, if_pos (by decide)] at h
      exact absurd rfl h
theorem scan_open {vals : List Int} (hv : ValsOK vals) : ∀ (cs : List (List Int)) (i : Nat) (next : Int), (∀ c ∈ cs, LitsOK vals.length c) → (next ≠ 0 → next.natAbs < vals.length ∧ valL vals next = 0) → (scanL vals cs i next).2 ≠ 0 → (scanL vals cs i next).2.natAbs < vals.length ∧ valL vals (scanL vals cs i next).2 = 0
  | [], i, next, _, h1, h => by
    rw [scanL] at h ⊢
    exact h1 h
  | c :: r, i, next, hl, h1, h => by
    rw [scanL] at h ⊢
    by_cases hf : (unitL vals c 0).2 = true
    · rw [if_pos hf] at h ⊢
      exact h1 h
    · rw [if_neg hf] at h ⊢
      refine scan_open hv r (i + 1) _ (fun c hc => hl c (by simp [hc])) (fun hne => ?_) h
      by_cases h0 : next = 0
      · rw [if_pos h0] at hne ⊢
        exact unit_open hv c 0 (hl c (by simp)) (fun e => absurd rfl e) hne
      · rw [if_neg h0]
        exact h1 h0
theorem count_set {vals : List Int} {x : Int} (h0 : x ≠ 0) (hx : x.natAbs < vals.length) (hz : valL vals x = 0) : (setL vals x).count 0 + 1 = vals.count 0 := by
  have hr : vals[x.natAbs] = 0 := by
    have : rd vals (x.natAbs : Int) = vals[x.natAbs] := getD_some (List.getElem?_eq_getElem hx)
    unfold valL at hz
    rw [← this]
    split at hz <;> omega
  have hpos : 0 < vals.count 0 := List.count_pos_iff.2 (hr ▸ List.getElem_mem hx)
  unfold setL
  by_cases h : x < 0
  · rw [if_pos h, show (-x).toNat = x.natAbs by omega, List.count_set hx]
    simp [hr]
    omega
  · rw [if_neg h, show x.toNat = x.natAbs by omega, List.count_set hx]
    simp [hr]
    omega
/-- the reference's round -/
theorem round_is (cs : List (List Int)) (vals list : List Int) (hv : ValsOK vals) (hn : vals.length ≤ 4096) (hc : ∀ c ∈ cs, LitsOK vals.length c ∧ c.length * 8 ≤ 140737488351232) (hlen : cs.length * 24 ≤ 140737488351232) (r : List Int × Int × List Int)
    (hcon : ∀ next, scanL vals cs 0 0 = (none, next) → Ev (fun k => if next = 0 then some (list, (-1 : Int), vals) else (spec_l02Set.f vals next).bind fun t => if list.length < 17592186044416 then spec_l02Run.l0 k cs t (list ++ [next]) else none) r)
    (hhit : ∀ i next, scanL vals cs 0 0 = (some i, next) → r = (list, (i : Int), vals)) : Ev (fun k => spec_l02Run.l0 k cs vals list) r := by
  refine stp (fun k => spec_l02Run.l0.eq_2 ..) ?_
  have key : ∀ (d i : Nat) (next : Int), i + d = cs.length → scanL vals (cs.drop i) i next = scanL vals cs 0 0 → Ev (fun k => spec_l02Run.l1 k cs vals list next (i : Int)) r := by
    intro d
    induction d with
    | zero =>
      intro i next hi hs
      obtain rfl : i = cs.length := by omega
      rw [List.drop_length, scanL] at hs
      refine stp (fun k => spec_l02Run.l1.eq_2 ..) (ifn (by omega) ?_)
      exact hcon next hs.symm
    | succ d ih =>
      intro i next hi hs
      have hil : i < cs.length := by omega
      have hx := hc cs[i] (List.getElem_mem hil)
      have hr : rd_L1 cs (i : Int) = cs[i] := getD_some (List.getElem?_eq_getElem hil)
      have hup : wrap64 ((i : Int) + 1) = ((i + 1 : Nat) : Int) := by rw [up (by omega) (by omega : (i : Int) < (cs.length : Int)) (by omega)]; omega
      rw [List.drop_eq_getElem_cons hil, scanL] at hs
      have hu := unit_clS hv cs[i] 0 hx.1
      rw [if_pos rfl] at hu
      rw [hu] at hs
      refine stp (fun k => spec_l02Run.l1.eq_2 ..) (ifp (by omega) (ifp (by omega) ?_))
      rw [hr, hup]
      refine bnd (clause_is cs[i] vals hv hx.1 hn hx.2) ?_
      generalize clS vals cs[i] 0 0 = q at hs ⊢
      obtain ⟨q0, q1, q2⟩ := q
      unfold cvS at hs
      simp only at hs ⊢
      cases q0 with
      | true =>
        refine ifp rfl (ih (i + 1) next (by omega) ?_)
        rw [if_pos rfl] at hs
        simp only [Bool.false_eq_true, if_false] at hs
        by_cases h0 : next = 0
        · rw [if_pos h0] at hs
          rw [h0]
          exact hs
        · rw [if_neg h0] at hs
          exact hs
      | false =>
        rw [if_neg (show ¬ (false = true) by decide)] at hs
        refine ifn (by simp) ?_
        by_cases h1 : q1 = 0
        · rw [if_pos h1, if_pos rfl] at hs
          rw [hhit i next hs.symm]
          exact ifp h1 (sm _)
        · rw [if_neg h1] at hs
          refine ifn h1 ?_
          by_cases h2 : q1 = 1
          · rw [if_pos h2] at hs
            simp only [Bool.false_eq_true, if_false] at hs
            refine ifp h2 ?_
            by_cases h0 : next = 0
            · rw [if_pos h0] at hs
              exact ifp h0 (ih (i + 1) q2 (by omega) hs)
            · rw [if_neg h0] at hs
              exact ifn h0 (ih (i + 1) next (by omega) hs)
          · rw [if_neg h2] at hs
            simp only [Bool.false_eq_true, if_false] at hs
            refine ifn h2 (ih (i + 1) next (by omega) ?_)
            by_cases h0 : next = 0
            · rw [if_pos h0] at hs
              rw [h0]
              exact hs
            · rw [if_neg h0] at hs
              exact hs
  exact key cs.length 0 0 (by omega) (by rw [List.drop_zero])
theorem scan_none_ {vals : List Int} : ∀ (cs : List (List Int)) (i : Nat) (next : Int), (scanL vals cs i next).1 = none → ∀ c ∈ cs, (unitL vals c 0).2 = false
  | [], _, _, _, c, hc => by cases hc
  | a :: r, i, next, h, c, hc => by
    rw [scanL] at h
    by_cases hf : (unitL vals a 0).2 = true
    · rw [if_pos hf] at h
      cases h
    · rw [if_neg hf] at h
      rcases List.mem_cons.1 hc with rfl | hc
      · exact Bool.eq_false_iff.2 hf
      · exact scan_none_ r _ _ h c hc
theorem scan_none {vals : List Int} {cs : List (List Int)} {next : Int} (h : scanL vals cs 0 0 = (none, next)) : ∀ c ∈ cs, (unitL vals c 0).2 = false := scan_none_ cs 0 0 (by rw [h])
/-- Both propagate, and come to the same. -/
theorem run_is (cs : List (List Int)) (hlen : cs.length * 24 ≤ 140737488351232) : ∀ (n : Nat) (vals list : List Int), vals.count 0 ≤ n → ValsOK vals → vals.length ≤ 4096 → (∀ c ∈ cs, LitsOK vals.length c ∧ c.length * 8 ≤ 140737488351232) → list.length + n ≤ 1000000 →
    ∃ r : List Int × List Int × Int, Ev (fun k => propL cs k vals list) r ∧ Ev (fun k => spec_l02Run.l0 k cs vals list) (r.2.1, r.2.2, r.1) ∧ r.1.length = vals.length ∧ ValsOK r.1 ∧ (r.2.2 < 0 → ∀ c ∈ cs, (unitL r.1 c 0).2 = false) := by
  intro n
  induction n with
  | zero =>
    intro vals list hz hv hn hc hl
    obtain ⟨q, hq⟩ : ∃ q, scanL vals cs 0 0 = q := ⟨_, rfl⟩
    have ho := scan_open hv cs 0 0 (fun c hc' => (hc c hc').1) (fun e => absurd rfl e)
    rw [hq] at ho
    obtain ⟨o, next⟩ := q
    cases o with
    | some i =>
      refine ⟨(vals, list, (i : Int)), stp (fun k => propL.eq_2 ..) ?_, round_is cs vals list hv hn hc hlen _ (fun nx e => ?_) (fun j nx e => ?_), rfl, hv, fun h => by simp only at h; omega⟩
      · rw [hq]
        exact sm _
      · rw [hq] at e
        cases e
      · rw [hq] at e
        cases e
        rfl
    | none =>
      have h0 : next = 0 := by
        by_cases h0 : next = 0
        · exact h0
        · have h1 := ho h0
          have h2 := count_set h0 h1.1 h1.2
          omega
      subst h0
      refine ⟨(vals, list, -1), stp (fun k => propL.eq_2 ..) ?_, round_is cs vals list hv hn hc hlen _ (fun nx e => ?_) (fun j nx e => ?_), rfl, hv, fun _ => scan_none hq⟩
      · rw [hq]
        exact ifp rfl (sm _)
      · rw [hq] at e
        cases e
        exact ifp rfl (sm _)
      · rw [hq] at e
        cases e
  | succ n ih =>
    intro vals list hz hv hn hc hl
    obtain ⟨q, hq⟩ : ∃ q, scanL vals cs 0 0 = q := ⟨_, rfl⟩
    have ho := scan_open hv cs 0 0 (fun c hc' => (hc c hc').1) (fun e => absurd rfl e)
    rw [hq] at ho
    obtain ⟨o, next⟩ := q
    cases o with
    | some i =>
      refine ⟨(vals, list, (i : Int)), stp (fun k => propL.eq_2 ..) ?_, round_is cs vals list hv hn hc hlen _ (fun nx e => ?_) (fun j nx e => ?_), rfl, hv, fun h => by simp only at h; omega⟩
      · rw [hq]
        exact sm _
      · rw [hq] at e
        cases e
      · rw [hq] at e
        cases e
        rfl
    | none =>
      by_cases h0 : next = 0
      · subst h0
        refine ⟨(vals, list, -1), stp (fun k => propL.eq_2 ..) ?_, round_is cs vals list hv hn hc hlen _ (fun nx e => ?_) (fun j nx e => ?_), rfl, hv, fun _ => scan_none hq⟩
        · rw [hq]
          exact ifp rfl (sm _)
        · rw [hq] at e
          cases e
          exact ifp rfl (sm _)
        · rw [hq] at e
          cases e
      · have h1 := ho h0
        simp only at h1
        have h2 := count_set h0 h1.1 h1.2
        obtain ⟨r, hr1, hr2, hr3, hr4, hr5⟩ := ih (setL vals next) (list ++ [next]) (by omega) (vals_set hv next) (by rw [setL_length]; exact hn) (by rw [setL_length]; exact hc) (by simp; omega)
        refine ⟨r, stp (fun k => propL.eq_2 ..) ?_, round_is cs vals list hv hn hc hlen _ (fun nx e => ?_) (fun j nx e => ?_), by rw [hr3, setL_length], hr4, hr5⟩
        · rw [hq]
          exact ifn h0 (ifp (by omega) hr1)
        · rw [hq] at e
          cases e
          exact ifn h0 (bnd0 (setS_is h0 h1.1 hn) (ifp (by omega) hr2))
        · rw [hq] at e
          cases e
/-- A right formula's clauses have literals that its values tell of. -/
theorem clause_lits {a : Int} (h0 : 0 ≤ a) (h1 : a ≤ 40) {c : List Int} (h : clauseB c a = true) : LitsOK (a + 1).toNat c := by
  intro x hx
  unfold clauseB at h
  rw [not_any_not c (fun x => litB x a), Bool.and_eq_true] at h
  have := List.all_eq_true.1 h.2 x hx
  simp only [litB, Bool.and_eq_true, decide_eq_true_eq] at this
  rw [w64 (by omega) (by omega)] at this
  refine ⟨this.1, by omega⟩
theorem cnf_lits {a : Int} {l : List (List Int)} (hr : RowsOK l) (h : cnfB a l = true) : 0 ≤ a ∧ a ≤ 40 ∧ ∀ c ∈ l, LitsOK (a + 1).toNat c ∧ c.length * 8 ≤ 140737488351232 := by
  unfold cnfB at h
  rw [not_any_not l (fun c => clauseB c a)] at h
  simp only [Bool.and_eq_true, decide_eq_true_eq] at h
  refine ⟨h.1, h.2.1, fun c hc => ⟨clause_lits h.1 h.2.1 (List.all_eq_true.1 h.2.2.2 c hc), (hr.2 c hc).1⟩⟩
/-- values that go on from others -/
def Ext (vals M : List Int) : Prop := ∀ i : Nat, vals.getD i 0 ≠ 0 → M.getD i 0 = vals.getD i 0
/-- all clauses are true -/
def Sat (cs : List (List Int)) (M : List Int) : Prop := ∀ c ∈ cs, ∃ x ∈ c, valL M x = 1
/-- each variable has a value -/
def Tot (N : Nat) (M : List Int) : Prop := M.length = N ∧ ValsOK M ∧ ∀ i : Nat, 1 ≤ i → i < N → M.getD i 0 ≠ 0
theorem rd_nat (vals : List Int) (n : Nat) : rd vals (n : Int) = vals.getD n 0 := by unfold rd; rw [Int.toNat_natCast]
theorem Ext.refl (vals : List Int) : Ext vals vals := fun _ _ => rfl
theorem Ext.trans {a b c : List Int} (h : Ext a b) (k : Ext b c) : Ext a c := fun i hi => by
  have h1 := h i hi
  rw [← h1] at hi ⊢
  exact k i hi
theorem Ext.val {vals M : List Int} (h : Ext vals M) {x : Int} (hx : valL vals x ≠ 0) : valL M x = valL vals x := by
  unfold valL at hx ⊢
  rw [rd_nat, rd_nat] at *
  split at hx
  · rename_i hn
    rw [if_pos hn, if_pos hn, h x.natAbs (by omega)]
  · rename_i hn
    rw [if_neg hn, if_neg hn, h x.natAbs hx]
theorem set_val {vals : List Int} {x : Int} (h0 : x ≠ 0) (hx : x.natAbs < vals.length) : valL (setL vals x) x = 1 := by
  unfold valL setL
  rw [rd_nat]
  by_cases h : x < 0
  · rw [if_pos h, if_pos h, show (-x).toNat = x.natAbs by omega]
    simp [List.getD, hx]
  · rw [if_neg h, if_neg h, show x.toNat = x.natAbs by omega]
    simp [List.getD, hx]
theorem set_other {vals : List Int} {x : Int} {i : Nat} (hi : i ≠ x.natAbs) : (setL vals x).getD i 0 = vals.getD i 0 := by
  unfold setL
  split
  · rw [List.getD_eq_getElem?_getD, List.getD_eq_getElem?_getD, List.getElem?_set_ne (by omega)]
  · rw [List.getD_eq_getElem?_getD, List.getD_eq_getElem?_getD, List.getElem?_set_ne (by omega)]
theorem val_inj {a b : List Int} {x : Int} (h : valL a x = valL b x) : a.getD x.natAbs 0 = b.getD x.natAbs 0 := by
  unfold valL at h
  rw [rd_nat, rd_nat] at h
  split at h <;> omega
/-- a literal that is true behind values is true with them -/
theorem Ext.set {vals M : List Int} (h : Ext vals M) {x : Int} (h0 : x ≠ 0) (hx : x.natAbs < vals.length) (hM : valL M x = 1) : Ext (setL vals x) M := by
  intro i hi
  by_cases he : i = x.natAbs
  · subst he
    exact val_inj (by rw [hM, set_val h0 hx])
  · rw [set_other he] at hi ⊢
    exact h i hi
theorem Ext.of_set {vals : List Int} {x : Int} (h0 : x ≠ 0) (hx : x.natAbs < vals.length) (hv : valL vals x ≠ -1) (hok : ValsOK vals) : Ext vals (setL vals x) := by
  intro i hi
  by_cases he : i = x.natAbs
  · subst he
    refine val_inj ?_
    rw [set_val h0 hx]
    rcases valL_ok hok hx with h | h | h
    · exact absurd h hv
    · unfold valL at h
      rw [rd_nat] at h
      split at h <;> omega
    · exact h.symm
  · exact set_other he
/-- a clause whose one literal is left makes it true -/
theorem unit_sem {vals M : List Int} (hv : ValsOK vals) (hE : Ext vals M) : ∀ (c : List Int) (one : Int), LitsOK vals.length c → ((∃ x ∈ c, valL M x = 1) ∨ (one ≠ 0 ∧ valL M one = 1)) → (unitL vals c one).2 = false ∧ ((unitL vals c one).1 ≠ 0 → valL M (unitL vals c one).1 = 1)
  | [], one, _, h => by
    rcases h with ⟨x, hx, _⟩ | ⟨h0, h1⟩
    · cases hx
    · rw [unitL]
      exact ⟨beq_eq_false_iff_ne.2 h0, fun _ => h1⟩
  | x :: r, one, hl, h => by
    have hx := hl x (by simp)
    have hr : LitsOK vals.length r := fun y hy => hl y (by simp [hy])
    rw [unitL, isL_val, isL_neg hx.1]
    rcases valL_ok hv hx.2 with e | e | e
    · rw [e, if_neg (show ¬ (decide ((-1 : Int) = 1) = true) by decide), if_pos (show decide ((-1 : Int) = -1) = true by decide)]
      refine unit_sem hv hE r one hr ?_
      rcases h with ⟨y, hy, h1⟩ | h
      · rcases List.mem_cons.1 hy with rfl | hy
        · rw [hE.val (by omega), e] at h1
          omega
        · exact .inl ⟨y, hy, h1⟩
      · exact .inr h
    · rw [e, if_neg (show ¬ (decide ((0 : Int) = 1) = true) by decide), if_neg (show ¬ (decide ((0 : Int) = -1) = true) by decide)]
      by_cases hxo : x = one
      · rw [if_pos hxo]
        refine unit_sem hv hE r one hr ?_
        rcases h with ⟨y, hy, h1⟩ | h
        · rcases List.mem_cons.1 hy with rfl | hy
          · exact .inr ⟨hxo ▸ hx.1, hxo ▸ h1⟩
          · exact .inl ⟨y, hy, h1⟩
        · exact .inr h
      · rw [if_neg hxo]
        by_cases h0 : one = 0
        · rw [if_pos h0]
          refine unit_sem hv hE r x hr ?_
          rcases h with ⟨y, hy, h1⟩ | ⟨h2, _⟩
          · rcases List.mem_cons.1 hy with rfl | hy
            · exact .inr ⟨hx.1, h1⟩
            · exact .inl ⟨y, hy, h1⟩
          · exact absurd h0 h2
        · rw [if_neg h0]
          exact ⟨rfl, fun hn => absurd rfl hn⟩
    · rw [e, if_pos (show decide ((1 : Int) = 1) = true by decide)]
      exact ⟨rfl, fun hn => absurd rfl hn⟩
theorem scan_sem {vals M : List Int} (hv : ValsOK vals) (hE : Ext vals M) : ∀ (cs : List (List Int)) (i : Nat) (next : Int), (∀ c ∈ cs, LitsOK vals.length c) → Sat cs M → (next ≠ 0 → valL M next = 1) → (scanL vals cs i next).1 = none ∧ ((scanL vals cs i next).2 ≠ 0 → valL M (scanL vals cs i next).2 = 1)
  | [], _, _, _, _, h => ⟨rfl, h⟩
  | c :: r, i, next, hl, hs, h => by
    obtain ⟨h1, h2⟩ := unit_sem hv hE c 0 (hl c (by simp)) (.inl (hs c (by simp)))
    rw [scanL, if_neg (by rw [h1]; exact Bool.false_ne_true)]
    refine scan_sem hv hE r (i + 1) _ (fun c hc => hl c (by simp [hc])) (fun c hc => hs c (by simp [hc])) ?_
    split
    · exact h2
    · exact h
/-- what follows is true with all models, and no clause is false then -/
theorem prop_sem (cs : List (List Int)) : ∀ (k : Nat) (vals list : List Int) (r : List Int × List Int × Int), propL cs k vals list = some r → ValsOK vals → (∀ c ∈ cs, LitsOK vals.length c) → (∀ M, Ext vals M → Sat cs M → r.2.2 < 0 ∧ Ext r.1 M) ∧ Ext vals r.1 ∧ r.1.count 0 ≤ vals.count 0
  | 0, _, _, _, h, _, _ => by simp [propL] at h
  | k + 1, vals, list, r, h, hv, hl => by
    rw [propL] at h
    have ho := scan_open hv cs 0 0 hl (fun e => absurd rfl e)
    have hs := fun M (hE : Ext vals M) (hS : Sat cs M) => scan_sem hv hE cs 0 0 hl hS (fun e => absurd rfl e)
    generalize scanL vals cs 0 0 = q at h ho hs
    obtain ⟨o, next⟩ := q
    cases o with
    | some i =>
      simp only [Option.some.injEq] at h
      subst h
      exact ⟨fun M hE hS => absurd (hs M hE hS).1 (by simp), Ext.refl _, Nat.le_refl _⟩
    | none =>
      simp only at h ho hs
      by_cases h0 : next = 0
      · rw [if_pos h0] at h
        simp only [Option.some.injEq] at h
        subst h
        exact ⟨fun M hE hS => ⟨(show (-1 : Int) < 0 by decide), hE⟩, Ext.refl _, Nat.le_refl _⟩
      · rw [if_neg h0] at h
        by_cases h1 : list.length < 17592186044416
        · rw [if_pos h1] at h
          have hop := ho h0
          obtain ⟨k1, k2, k3⟩ := prop_sem cs k (setL vals next) (list ++ [next]) r h (vals_set hv _) (by rw [setL_length]; exact hl)
          have hE2 : Ext vals (setL vals next) := Ext.of_set h0 hop.1 (by omega) hv
          refine ⟨fun M hE hS => k1 M (hE.set h0 hop.1 ((hs M hE hS).2 h0)) hS, hE2.trans k2, ?_⟩
          have := count_set h0 hop.1 hop.2
          omega
        · rw [if_neg h1] at h
          cases h
/-- no variable is open: all have values -/
theorem idx_none (x : Int) : ∀ (l : List Int) (i : Nat), idxL x l i = -1 → ∀ j : Nat, j < l.length → l.getD j 0 ≠ x
  | [], _, _, j, hj => by simp at hj
  | y :: r, i, h, j, hj => by
    rw [idxL] at h
    by_cases hy : x = y
    · rw [if_pos hy] at h
      omega
    · rw [if_neg hy] at h
      rcases j with _ | j
      · exact fun e => hy e.symm
      · have := idx_none x r (i + 1) h j (by simpa using hj)
        simpa using this
theorem idx_some (x : Int) : ∀ (l : List Int) (i : Nat), 0 ≤ idxL x l i → ∃ j : Nat, idxL x l i = ((i + j : Nat) : Int) ∧ j < l.length ∧ l.getD j 0 = x ∧ ∀ m : Nat, m < j → l.getD m 0 ≠ x
  | [], _, h => by rw [idxL] at h; omega
  | y :: r, i, h => by
    rw [idxL] at h ⊢
    by_cases hy : x = y
    · rw [if_pos hy]
      exact ⟨0, by omega, by simp, by simpa using hy.symm, fun m hm => absurd hm (Nat.not_lt_zero _)⟩
    · rw [if_neg hy] at h ⊢
      obtain ⟨j, h1, h2, h3, h4⟩ := idx_some x r (i + 1) h
      refine ⟨j + 1, by omega, by simpa using h2, by simpa using h3, fun m hm => ?_⟩
      rcases m with _ | m
      · exact fun e => hy e.symm
      · have := h4 m (by omega)
        simpa using this
theorem drop_getD (vals : List Int) (j : Nat) : (vals.drop 1).getD j 0 = vals.getD (j + 1) 0 := by
  rw [List.getD_eq_getElem?_getD, List.getD_eq_getElem?_getD, List.getElem?_drop, Nat.add_comm]
theorem open_none {vals : List Int} (h : openL vals = 0) : ∀ i : Nat, 1 ≤ i → i < vals.length → vals.getD i 0 ≠ 0 := by
  intro i h1 h2
  have := idx_none 0 (vals.drop 1) 0 (by unfold openL at h; omega) (i - 1) (by simp; omega)
  rwa [drop_getD, show i - 1 + 1 = i by omega] at this
theorem open_some {vals : List Int} (h : openL vals ≠ 0) : ∃ i : Nat, openL vals = (i : Int) ∧ 1 ≤ i ∧ i < vals.length ∧ vals.getD i 0 = 0 ∧ ∀ m : Nat, 1 ≤ m → m < i → vals.getD m 0 ≠ 0 := by
  have hr := idxL_range 0 (vals.drop 1) 0
  unfold openL at h ⊢
  obtain ⟨j, h1, h2, h3, h4⟩ := idx_some 0 (vals.drop 1) 0 (by omega)
  rw [drop_getD] at h3
  rw [List.length_drop] at h2
  refine ⟨j + 1, by omega, by omega, by omega, h3, fun m hm1 hm2 => ?_⟩
  have := h4 (m - 1) (by omega)
  rwa [drop_getD, show m - 1 + 1 = m by omega] at this
/-- values of all variables make each clause true that isn't false -/
theorem unit_total {vals : List Int} (hv : ValsOK vals) (ht : ∀ i : Nat, 1 ≤ i → i < vals.length → vals.getD i 0 ≠ 0) : ∀ (c : List Int), LitsOK vals.length c → (unitL vals c 0).2 = false → ∃ x ∈ c, valL vals x = 1
  | [], _, h => by rw [unitL] at h; simp at h
  | x :: r, hl, h => by
    have hx := hl x (by simp)
    have hr : LitsOK vals.length r := fun y hy => hl y (by simp [hy])
    rw [unitL, isL_val, isL_neg hx.1] at h
    rcases valL_ok hv hx.2 with e | e | e
    · rw [e, if_neg (show ¬ (decide ((-1 : Int) = 1) = true) by decide), if_pos (show decide ((-1 : Int) = -1) = true by decide)] at h
      obtain ⟨y, hy, h1⟩ := unit_total hv ht r hr h
      exact ⟨y, by simp [hy], h1⟩
    · have := ht x.natAbs (by omega) hx.2
      unfold valL at e
      rw [rd_nat] at e
      split at e <;> omega
    · exact ⟨x, by simp, e⟩
/-- the reference's look for an open variable -/
theorem least_scan (cs : List (List Int)) (vals : List Int) (hn : vals.length ≤ 4096) (q : List Int × Bool) (i : Nat) (hi : 1 ≤ i) (hil : i ≤ vals.length) (h : ∀ m : Nat, 1 ≤ m → m < i → vals.getD m 0 ≠ 0) (hk : Ev (fun k => spec_l02Least.l0 k cs vals (i : Int)) q) : Ev (fun k => spec_l02Least.l0 k cs vals 1) q := by
  have key : ∀ (d j : Nat), j + d = i → 1 ≤ j → Ev (fun k => spec_l02Least.l0 k cs vals (j : Int)) q := by
    intro d
    induction d with
    | zero =>
      intro j hj h1
      obtain rfl : j = i := by omega
      exact hk
    | succ d ih =>
      intro j hj h1
      have h2 := ih (j + 1) (by omega) (by omega)
      have hup : wrap64 ((j : Int) + 1) = ((j + 1 : Nat) : Int) := by rw [up (by omega) (by omega : (j : Int) < (vals.length : Int)) (by omega)]; omega
      refine stp (fun k => spec_l02Least.l0.eq_2 ..) (ifp (by omega) (ifp (by omega) (ifn ?_ ?_)))
      · rw [rd_nat]
        exact h j h1 (by omega)
      · rw [hup]
        exact h2
  exact key (i - 1) 1 (by omega) (Nat.le_refl _)
theorem least_end (cs : List (List Int)) (vals : List Int) (hn : vals.length ≤ 4096) (h : ∀ i : Nat, 1 ≤ i → i < vals.length → vals.getD i 0 ≠ 0) : Ev (fun k => spec_l02Least.l0 k cs vals 1) (vals, true) := by
  rcases Nat.eq_zero_or_pos vals.length with h0 | h0
  · exact stp (fun k => spec_l02Least.l0.eq_2 ..) (ifn (by omega) (sm _))
  · refine least_scan cs vals hn _ vals.length h0 (Nat.le_refl _) (fun m h1 h2 => h m h1 h2) ?_
    exact stp (fun k => spec_l02Least.l0.eq_2 ..) (ifn (by omega) (sm _))
theorem least_loop (cs : List (List Int)) (vals : List Int) (hn : vals.length ≤ 4096) (i : Nat) (h1 : 1 ≤ i) (h2 : i < vals.length) (h3 : vals.getD i 0 = 0) (h4 : ∀ m : Nat, 1 ≤ m → m < i → vals.getD m 0 ≠ 0) (q : List Int × Bool)
    (hq : Ev (fun k => (spec_l02Least.f k cs (vals.set i (-1))).bind fun bt => if bt.2 = true then some (bt.1, true) else (spec_l02Least.f k cs ((vals.set i (-1)).set i 1)).bind fun bt2 => some (bt2.1, bt2.2)) q) : Ev (fun k => spec_l02Least.l0 k cs vals 1) q := by
  refine least_scan cs vals hn q i h1 (by omega) h4 ?_
  refine stp (fun k => spec_l02Least.l0.eq_2 ..) (ifp (by omega) (ifp (by omega) (ifp (by rw [rd_nat]; exact h3) (bnd (sm _) ?_))))
  rw [Int.toNat_natCast]
  exact hq
theorem spec_run_le {cs : List (List Int)} {vals : List Int} (hlen : cs.length * 24 ≤ 140737488351232) (hv : ValsOK vals) (hn : vals.length ≤ 4096) (hc : ∀ c ∈ cs, LitsOK vals.length c ∧ c.length * 8 ≤ 140737488351232) :
    ∃ r : List Int × List Int × Int, Ev (fun k => propL cs k vals []) r ∧ Ev (fun k => spec_l02Run.f k cs vals) (r.2.1, r.2.2, r.1) ∧ r.1.length = vals.length ∧ ValsOK r.1 ∧ (r.2.2 < 0 → ∀ c ∈ cs, (unitL r.1 c 0).2 = false) ∧ (∀ M, Ext vals M → Sat cs M → r.2.2 < 0 ∧ Ext r.1 M) ∧ Ext vals r.1 ∧ r.1.count 0 ≤ vals.count 0 := by
  obtain ⟨r, h1, h2, h3, h4, h5⟩ := run_is cs hlen (vals.count 0) vals [] (Nat.le_refl _) hv hn hc (by have := List.count_le_length (a := (0 : Int)) (l := vals); simp; omega)
  obtain ⟨K, hK⟩ := h1
  obtain ⟨s1, s2, s3⟩ := prop_sem cs K vals [] r (hK K (Nat.le_refl _)) hv (fun c hc' => (hc c hc').1)
  exact ⟨r, ⟨K, hK⟩, evc (fun k => spec_l02Run.f.eq_1 ..) h2, h3, h4, h5, s1, s2, s3⟩
/-- Both look for the least model, and come to the same: a model, or none there is. -/
theorem least_is (cs : List (List Int)) (hlen : cs.length * 24 ≤ 140737488351232) : ∀ (n : Nat) (vals : List Int), vals.count 0 ≤ n → 0 < vals.length → ValsOK vals → vals.length ≤ 4096 → (∀ c ∈ cs, LitsOK vals.length c ∧ c.length * 8 ≤ 140737488351232) →
    ∃ (o : Option (List Int)) (q : List Int × Bool), Ev (fun k => solveL cs k vals) o ∧ Ev (fun k => spec_l02Least.f k cs vals) q ∧ q.2 = o.isSome ∧ (∀ v, o = some v → q.1 = v ∧ Tot vals.length v ∧ Ext vals v ∧ Sat cs v) ∧ (o = none → ∀ M, Tot vals.length M → Ext vals M → ¬ Sat cs M) := by
  intro n
  induction n with
  | zero =>
    intro vals hz hp hv hn hc
    obtain ⟨r, h1, h2, h3, h4, h5, s1, s2, s3⟩ := spec_run_le hlen hv hn hc
    by_cases ha : 0 ≤ r.2.2
    · refine ⟨none, ([], false), stp (fun k => solveL.eq_2 ..) (bnd h1 (ifp ha (sm _))), stp (fun k => spec_l02Least.f.eq_2 ..) (bnd (sm _) (ifp (by simp; omega) ?_)), rfl, fun v e => (by cases e), fun _ M hT hE hS => ?_⟩
      · rw [List.nil_append]
        exact bnd h2 (ifp ha (sm _))
      · have := (s1 M hE hS).1
        omega
    · by_cases hop : openL r.1 = 0
      · refine ⟨some r.1, (r.1, true), stp (fun k => solveL.eq_2 ..) (bnd h1 (ifn ha (ifp hop (sm _)))), stp (fun k => spec_l02Least.f.eq_2 ..) (bnd (sm _) (ifp (by simp; omega) ?_)), rfl, fun v e => ?_, fun e => by cases e⟩
        · rw [List.nil_append]
          refine bnd h2 (ifn ha ?_)
          exact least_end cs r.1 (by omega) (open_none hop)
        · cases e
          have ht := open_none hop
          rw [h3] at ht
          exact ⟨rfl, ⟨h3, h4, ht⟩, s2, fun c hc' => unit_total h4 (by rw [h3]; exact ht) c (by rw [h3]; exact (hc c hc').1) (h5 (by omega) c hc')⟩
      · obtain ⟨i, e1, e2, e3, e4, e5⟩ := open_some hop
        have : 0 < r.1.count 0 := List.count_pos_iff.2 (by
          rw [List.getD_eq_getElem?_getD, List.getElem?_eq_getElem e3, Option.getD_some] at e4
          exact e4 ▸ List.getElem_mem e3)
        omega
  | succ n ih =>
    intro vals hz hp hv hn hc
    obtain ⟨r, h1, h2, h3, h4, h5, s1, s2, s3⟩ := spec_run_le hlen hv hn hc
    by_cases ha : 0 ≤ r.2.2
    · refine ⟨none, ([], false), stp (fun k => solveL.eq_2 ..) (bnd h1 (ifp ha (sm _))), stp (fun k => spec_l02Least.f.eq_2 ..) (bnd (sm _) (ifp (by simp; omega) ?_)), rfl, fun v e => (by cases e), fun _ M hT hE hS => ?_⟩
      · rw [List.nil_append]
        exact bnd h2 (ifp ha (sm _))
      · have := (s1 M hE hS).1
        omega
    · by_cases hop : openL r.1 = 0
      · refine ⟨some r.1, (r.1, true), stp (fun k => solveL.eq_2 ..) (bnd h1 (ifn ha (ifp hop (sm _)))), stp (fun k => spec_l02Least.f.eq_2 ..) (bnd (sm _) (ifp (by simp; omega) ?_)), rfl, fun v e => ?_, fun e => by cases e⟩
        · rw [List.nil_append]
          refine bnd h2 (ifn ha ?_)
          exact least_end cs r.1 (by omega) (open_none hop)
        · cases e
          have ht := open_none hop
          rw [h3] at ht
          exact ⟨rfl, ⟨h3, h4, ht⟩, s2, fun c hc' => unit_total h4 (by rw [h3]; exact ht) c (by rw [h3]; exact (hc c hc').1) (h5 (by omega) c hc')⟩
      · obtain ⟨i, e1, e2, e3, e4, e5⟩ := open_some hop
        have hi0 : (i : Int) ≠ 0 := by omega
        have hiv : valL r.1 (i : Int) = 0 := by unfold valL; rw [rd_nat, show ((i : Int)).natAbs = i by omega, if_neg (by omega)]; exact e4
        have hiv2 : valL r.1 (-(i : Int)) = 0 := by unfold valL; rw [rd_nat, show (-(i : Int)).natAbs = i by omega, if_pos (by omega), e4]; rfl
        have c1 := count_set (vals := r.1) (x := (i : Int)) hi0 (by omega) hiv
        have c2 := count_set (vals := r.1) (x := -(i : Int)) (by omega) (by omega) hiv2
        have hset1 : setL r.1 (-(i : Int)) = r.1.set i (-1) := by unfold setL; rw [if_pos (by omega), show (-(-(i : Int))).toNat = i by omega]
        have hset2 : setL r.1 (i : Int) = r.1.set i 1 := by unfold setL; rw [if_neg (by omega), show ((i : Int)).toNat = i by omega]
        obtain ⟨o1, q1, a1, a2, a3, a4, a5⟩ := ih (setL r.1 (-(i : Int))) (by omega) (by rw [setL_length]; omega) (vals_set h4 _) (by rw [setL_length]; omega) (by rw [setL_length, h3]; exact hc)
        obtain ⟨o2, q2, b1, b2, b3, b4, b5⟩ := ih (setL r.1 (i : Int)) (by omega) (by rw [setL_length]; omega) (vals_set h4 _) (by rw [setL_length]; omega) (by rw [setL_length, h3]; exact hc)
        rw [setL_length, h3] at a4 a5 b4 b5
        have x1 : Ext r.1 (setL r.1 (-(i : Int))) := Ext.of_set (by omega) (by omega) (by omega) h4
        have x2 : Ext r.1 (setL r.1 (i : Int)) := Ext.of_set (by omega) (by omega) (by omega) h4
        have hgo : ∀ q, Ev (fun k => (spec_l02Least.f k cs (r.1.set i (-1))).bind fun bt => if bt.2 = true then some (bt.1, true) else (spec_l02Least.f k cs ((r.1.set i (-1)).set i 1)).bind fun bt2 => some (bt2.1, bt2.2)) q → Ev (fun k => spec_l02Least.f k cs vals) q := by
          intro q hq
          refine stp (fun k => spec_l02Least.f.eq_2 ..) (bnd (sm _) (ifp (by simp; omega) ?_))
          rw [List.nil_append]
          refine bnd h2 (ifn ha ?_)
          exact least_loop cs r.1 (by omega) i e2 e3 e4 e5 q hq
        rw [hset1] at a2
        rw [hset2] at b2
        rw [List.set_set] at hgo
        cases o1 with
        | some f =>
          obtain ⟨f1, f2, f3, f4⟩ := a4 f rfl
          have f1' : q1.1 = f := f1
          refine ⟨some f, (q1.1, true), stp (fun k => solveL.eq_2 ..) (bnd h1 (ifn ha (ifn hop (bnd (by rw [e1]; exact a1) (ifp rfl (sm _)))))), hgo _ (bnd a2 (ifp a3 (sm _))), rfl, fun v e => ?_, fun e => by cases e⟩
          cases e
          exact ⟨f1', f2, (s2.trans x1).trans f3, f4⟩
        | none =>
          refine ⟨o2, (q2.1, q2.2), stp (fun k => solveL.eq_2 ..) (bnd h1 (ifn ha (ifn hop (bnd (by rw [e1]; exact a1) (ifn (by simp) (by rw [e1]; exact b1)))))), hgo _ (bnd a2 (ifn (by rw [a3]; simp) (bnd b2 (sm _)))), b3, fun v e => ?_, fun e M hT hE hS => ?_⟩
          · obtain ⟨g1, g2, g3, g4⟩ := b4 v e
            exact ⟨g1, g2, (s2.trans x2).trans g3, g4⟩
          · have hE2 := (s1 M hE hS).2
            have hMi := hT.2.2 i e2 (by omega)
            have hMv : M.getD i 0 = -1 ∨ M.getD i 0 = 1 := by
              have hil : i < M.length := by rw [hT.1]; omega
              have h9 : M.getD i 0 = M[i] := by simp [List.getD, hil]
              have := hT.2.1 M[i] (List.getElem_mem hil)
              omega
            rcases hMv with hm | hm
            · refine a5 rfl M hT (hE2.set (by omega) (by omega) ?_) hS
              unfold valL
              rw [rd_nat, show (-(i : Int)).natAbs = i by omega, if_pos (by omega), hm]
              rfl
            · refine b5 e M hT (hE2.set (by omega) (by omega) ?_) hS
              unfold valL
              rw [rd_nat, show ((i : Int)).natAbs = i by omega, if_neg (by omega), hm]
theorem eqB_self (l : List Bool) (hl : l.length ≤ 281474976710656) : Ev (fun k => laws_eqBoolS.f k l l) true := by
  refine evc (fun k => laws_eqBoolS.f.eq_1 ..) (ifp rfl ?_)
  refine same l (fun i k => laws_eqBoolS.l0 k l l i) ?_ ?_
  · exact stp (fun k => laws_eqBoolS.l0.eq_2 ..) (ifn (by omega) (sm _))
  · intro i x hx hk
    have hi : i < l.length := (List.getElem?_eq_some_iff.1 hx).1
    refine stp (fun k => laws_eqBoolS.l0.eq_2 ..) (ifp (by omega) (ifp (by omega) (ifp (by omega) (ifn (by simp) ?_))))
    rw [up (by omega) (by omega : (i : Int) < (l.length : Int)) (by omega)]
    exact hk
/-! the marks that a law writes into a row of its own, and what it reads back -/
def mk3 (k : Int) : Bool := Int.tmod k 3 == 0
theorem markB_is (l : List Bool) (k0 : Int) (h0 : 0 ≤ k0) (h1 : k0 + (l.length : Int) ≤ 1000000000000000000) : ∃ m : List Bool, m.length = l.length ∧ (∀ j : Nat, j < m.length → rdOf false m (j : Int) = mk3 (k0 + (j : Int))) ∧ Ev (fun k => laws_markBoolS.f k l k0) (k0 + (l.length : Int), m) := by
  have key : ∀ (d i : Nat) (x : List Bool), i + d = l.length → x.length = l.length → (∀ j : Nat, j < i → rdOf false x (j : Int) = mk3 (k0 + (j : Int))) → ∃ m : List Bool, m.length = l.length ∧ (∀ j : Nat, j < m.length → rdOf false m (j : Int) = mk3 (k0 + (j : Int))) ∧ Ev (fun k => laws_markBoolS.l0 k x (k0 + (i : Int)) (i : Int)) (k0 + (l.length : Int), m) := by
    intro d
    induction d with
    | zero =>
      intro i x hi hx hj
      obtain rfl : i = l.length := by omega
      exact ⟨x, hx, by rw [hx]; exact hj, stp (fun k => laws_markBoolS.l0.eq_2 ..) (ifn (by omega) (sm _))⟩
    | succ d ih =>
      intro i x hi hx hj
      obtain ⟨m, m1, m2, m3⟩ := ih (i + 1) (x.set i (mk3 (k0 + (i : Int)))) (by omega) (by simpa using hx) (by
        intro j hlt
        by_cases e : j = i
        · subst e
          unfold rdOf
          simp [List.getD, show j < x.length by omega]
        · have := hj j (by omega)
          unfold rdOf at this ⊢
          simp only [Int.toNat_natCast] at this ⊢
          rw [List.getD_eq_getElem?_getD, List.getElem?_set_ne (by omega), ← List.getD_eq_getElem?_getD]
          exact this)
      refine ⟨m, m1, m2, stp (fun k => laws_markBoolS.l0.eq_2 ..) (ifp (by omega) (ifp (by omega) ?_))⟩
      rw [up (by omega) (by omega : (i : Int) < (l.length : Int)) (by omega), w64 (by omega) (by omega), Int.toNat_natCast]
      rw [show ((i + 1 : Nat) : Int) = (i : Int) + 1 by omega, ← Int.add_assoc] at m3
      exact m3
  obtain ⟨m, m1, m2, m3⟩ := key l.length 0 l (by omega) rfl (fun j hj => absurd hj (Nat.not_lt_zero _))
  refine ⟨m, m1, m2, evc (fun k => laws_markBoolS.f.eq_1 ..) ?_⟩
  simpa using m3
theorem heldB_is (m : List Bool) (k0 : Int) (h0 : 0 ≤ k0) (h1 : k0 + (m.length : Int) ≤ 1000000000000000000) (hm : ∀ j : Nat, j < m.length → rdOf false m (j : Int) = mk3 (k0 + (j : Int))) : Ev (fun k => laws_heldBoolS.f k m k0) (k0 + (m.length : Int)) := by
  have key : ∀ (d i : Nat), i + d = m.length → Ev (fun k => laws_heldBoolS.l0 k m (k0 + (i : Int)) (i : Int)) (k0 + (m.length : Int)) := by
    intro d
    induction d with
    | zero =>
      intro i hi
      obtain rfl : i = m.length := by omega
      exact stp (fun k => laws_heldBoolS.l0.eq_2 ..) (ifn (by omega) (sm _))
    | succ d ih =>
      intro i hi
      have := ih (i + 1) (by omega)
      rw [show ((i + 1 : Nat) : Int) = (i : Int) + 1 by omega, ← Int.add_assoc] at this
      have e := hm i (by omega)
      refine stp (fun k => laws_heldBoolS.l0.eq_2 ..) (ifp (by omega) (ifp (by omega) (ifn ?_ ?_)))
      · rw [e]
        unfold mk3
        simp
      · rw [up (by omega) (by omega : (i : Int) < (m.length : Int)) (by omega), w64 (x := k0 + (i : Int) + 1) (by omega) (by omega)]
        exact this
  have := key m.length 0 (by omega)
  refine evc (fun k => laws_heldBoolS.f.eq_1 ..) ?_
  simpa using this
theorem markI_is (l : List Int) (k0 : Int) (h0 : 0 ≤ k0) (h1 : k0 + (l.length : Int) ≤ 1000000000000000000) : ∃ m : List Int, Ev (fun k => laws_markIntS.f k l k0) (k0 + (l.length : Int), m) := by
  have key : ∀ (d i : Nat) (x : List Int), i + d = l.length → x.length = l.length → ∃ m : List Int, Ev (fun k => laws_markIntS.l0 k x (k0 + (i : Int)) (i : Int)) (k0 + (l.length : Int), m) := by
    intro d
    induction d with
    | zero =>
      intro i x hi hx
      obtain rfl : i = l.length := by omega
      exact ⟨x, stp (fun k => laws_markIntS.l0.eq_2 ..) (ifn (by omega) (sm _))⟩
    | succ d ih =>
      intro i x hi hx
      obtain ⟨m, m3⟩ := ih (i + 1) (x.set i (k0 + (i : Int))) (by omega) (by simpa using hx)
      refine ⟨m, stp (fun k => laws_markIntS.l0.eq_2 ..) (ifp (by omega) (ifp (by omega) ?_))⟩
      rw [up (by omega) (by omega : (i : Int) < (l.length : Int)) (by omega), w64 (by omega) (by omega), Int.toNat_natCast]
      rw [show ((i + 1 : Nat) : Int) = (i : Int) + 1 by omega, ← Int.add_assoc] at m3
      exact m3
  obtain ⟨m, m3⟩ := key l.length 0 l (by omega) rfl
  refine ⟨m, evc (fun k => laws_markIntS.f.eq_1 ..) ?_⟩
  simpa using m3

theorem out_is (v : List Int) (hn : v.length ≤ 4096) (hp : 0 < v.length) : Ev (fun k => spec_LeastModel.l0 k v [] 1) (outB v, 0) := by
  have key : ∀ (d i : Nat) (out : List Bool), i + d = v.length → 1 ≤ i → out = (outB v).take (i - 1) → Ev (fun k => spec_LeastModel.l0 k v out (i : Int)) (outB v, 0) := by
    intro d
    induction d with
    | zero =>
      intro i out hi h1 ho
      have : out = outB v := by
        rw [ho]
        apply List.take_of_length_le
        unfold outB
        simp
        omega
      subst this
      exact stp (fun k => spec_LeastModel.l0.eq_2 ..) (ifn (by omega) (sm _))
    | succ d ih =>
      intro i out hi h1 ho
      have hil : i < v.length := by omega
      have hlo : (outB v).length = v.length - 1 := by unfold outB; simp
      have hol : out.length ≤ 4096 := by rw [ho, List.length_take]; omega
      have h2 := ih (i + 1) (out ++ [rd v (i : Int) == 1]) (by omega) (by omega) (by
        rw [ho, show i + 1 - 1 = (i - 1) + 1 by omega, List.take_succ_eq_append_getElem (by omega)]
        congr 1
        unfold outB
        simp only [List.getElem_map, List.getElem_drop]
        rw [show rd v (i : Int) = v[i] from getD_some (List.getElem?_eq_getElem hil)]
        simp only [show 1 + (i - 1) = i by omega])
      refine stp (fun k => spec_LeastModel.l0.eq_2 ..) (ifp (by omega) (ifp (by omega) (ifp (by omega) ?_)))
      rw [up (by omega) (by omega : (i : Int) < (v.length : Int)) (by omega)]
      exact h2
  exact key (v.length - 1) 1 [] (by omega) (Nat.le_refl _) (by simp)
theorem both (a : Int) (l : List (List Int)) (h : RowsOK l) : ∃ r : List Bool × Int, Ev (fun k => spec_LeastModel.f k a l) r ∧ Ev (fun k => impl_LeastModel.f k a l) r ∧ r.1.length ≤ 4096 := by
  by_cases h2 : cnfB a l = true
  · obtain ⟨h4, h5, h6⟩ := cnf_lits h h2
    have hw : wrap64 (a + 1) = a + 1 := w64 (by omega) (by omega)
    have hcond : (decide (0 ≤ a) && decide (a ≤ 4000) && (l.all fun c => fitL (a + 1).toNat c)) = true := by
      rw [decide_eq_true h4, decide_eq_true (by omega : a ≤ 4000), Bool.true_and, Bool.true_and]
      exact List.all_eq_true.2 fun d hd => lits_fit (h6 d hd).1
    obtain ⟨z, hz⟩ : ∃ z, List.replicate (a + 1).toNat (0 : Int) = z := ⟨_, rfl⟩
    have hzl : z.length = (a + 1).toNat := by rw [← hz]; simp
    have hzv : ValsOK z := by rw [← hz]; exact vals_zero _
    obtain ⟨o, q, p1, p2, p3, p4, p5⟩ := least_is l (rows_len h) (z.count 0) z (Nat.le_refl _) (by omega) hzv (by omega) (by rw [hzl]; exact h6)
    cases o with
    | none =>
      refine ⟨([], 6), bnd (specCnf_is a l h) (ifp h2 ?_), bnd0 rfl (ifp h2 (bnd (a := ([], false)) (evc (fun k => impl_leastModel.f.eq_1 ..) (ifp hcond ?_)) (ifn (by simp) (sm _)))), by simp⟩
      · rw [hw, hz]
        exact ifp (by omega) (ifp (by omega) (bnd p2 (ifn (by rw [p3]; simp) (sm _))))
      · rw [hz]
        exact bnd p1 (sm _)
    | some v =>
      obtain ⟨f1, f2, _, _⟩ := p4 v rfl
      have hvl := f2.1
      refine ⟨(outB v, 0), bnd (specCnf_is a l h) (ifp h2 ?_), bnd0 rfl (ifp h2 (bnd (a := (outB v, true)) (evc (fun k => impl_leastModel.f.eq_1 ..) (ifp hcond ?_)) (ifp rfl (sm _)))), by unfold outB; simp; omega⟩
      · rw [hw, hz]
        refine ifp (by omega) (ifp (by omega) (bnd p2 (ifp (by rw [p3]; rfl) ?_)))
        rw [f1]
        exact out_is v (by omega) (by omega)
      · rw [hz]
        exact bnd p1 (sm _)
  · exact ⟨([], 1), bnd (specCnf_is a l h) (ifn h2 (sm _)), bnd0 rfl (ifn h2 (sm _)), by simp⟩

theorem FnExactLeastModel : laws_FnExactLeastModel.Pure := by
  intro a l ha hl
  refine Ev.rounds ?_
  refine evc (fun k => laws_FnExactLeastModel.f.eq_1 ..) ?_
  obtain ⟨v, hv, hsz, hsum⟩ := szCnf_sum a l hl 1048576 (by omega) (by omega)
  refine bnd hsz ?_
  by_cases h : v < 0
  · exact ifp h (sm _)
  · have hs := hsum (by omega)
    obtain ⟨r, hr1, hr2, hrl⟩ := both a l hl
    obtain ⟨m, m1, m2, m3⟩ := markB_is r.1 1 (by omega) (by omega)
    have hh := heldB_is m 1 (by omega) (by omega) m2
    rw [m1] at hh
    refine ifn h (bnd (toCnf_is a l hl) (bnd hr1 (bnd hr2 (bnd (eqB_self r.1 (by omega)) (bnd (eqCnf_self a l hl) (bnd m3 (bnd hh (ifp ⟨rfl, rfl, rfl, rfl, rfl, ?_, ?_, m1⟩ (sm _)))))))))
    · show (0 : Int) ≤ 1 + (r.1.length : Int)
      omega
    · omega

end Go.Proofs.Ytelfahcjeldliaa.Pure
